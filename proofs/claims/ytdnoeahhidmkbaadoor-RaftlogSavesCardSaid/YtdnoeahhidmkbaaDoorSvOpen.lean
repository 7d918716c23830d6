/- raftlog.Open, Save walked; entries stay while a disk turns. -/
import Derived.Test.YtdnoeahhidmkbaaDoorWlCut
import Derived.Test.YtdnoeahhidmkbaaDoorSvFrom
namespace Go.Proofs.YtdnoeahhidmkbaaDoor
open Go Go.RowKit
set_option maxRecDepth 100000

theorem sv_strs {w : World} {v : Value} {ls : List (List UInt8)} (h : Strs w v ls) : Sv.Strs w v ls := h
theorem strs_sv {w : World} {v : Value} {ls : List (List UInt8)} (h : Sv.Strs w v ls) : Strs w v ls := h
def RAFT : vd.Name := [82, 65, 70, 84]
theorem RAFT_ok : wl.openE RAFT = true := by decide
/-- a block in which no entry begins -/
def NoEnt (w : World) (x : Nat) : Prop := ∀ j n s, ¬ (w.cell? ⟨x, j, none⟩ = some (.int .u64 n) ∧ w.cell? ⟨x, j + 1, none⟩ = some (.string s))
theorem noent_of {w : World} {x : Nat} {vs : List Value} {t : TypeId} (h : Vb w x vs t) (hv : ∀ j n s, ¬ (vs[j]? = some (.int .u64 n) ∧ vs[j + 1]? = some (.string s))) : NoEnt w x := by
  intro j n s
  rw [cell_of_row w x j _ _ (0, 0) h, cell_of_row w x (j + 1) _ _ (0, 0) h]
  simpa using hv j n s
theorem noent_disk {w : World} {p b : Nat} {d : vd.Disk} (h : Dk w p b d) : NoEnt w p ∧ NoEnt w b := by
  refine ⟨noent_of h.blk ?_, ?_⟩
  · rintro j n s ⟨h1, _⟩
    match j, h1 with
    | 0, h1 => simp [diskV] at h1
    | 1, h1 => simp [diskV] at h1
    | 2, h1 => simp [diskV] at h1
    | 3, h1 => simp [diskV] at h1
    | 4, h1 => simp [diskV] at h1
    | 5, h1 => simp [diskV] at h1
    | k + 6, h1 => simp [diskV] at h1
  · rintro j n s ⟨h1, _⟩
    obtain ⟨es, c, hb, _⟩ := h.map
    simp [World.cell?, hb] at h1
theorem noent_log {w : World} {g p : Nat} {l : wl.L} (h : Lg w g p l) : NoEnt w g := by
  refine noent_of h ?_
  rintro j n s ⟨h1, _⟩
  match j, h1 with
  | 0, h1 => simp [lgV, dptr] at h1
  | 1, h1 => simp [lgV, keyV] at h1
  | 2, h1 => simp [lgV] at h1
  | 3, h1 => simp [lgV] at h1
  | k + 4, h1 => simp [lgV] at h1
theorem ents_keep {S : List Nat} {w w' : World} {u : Value} {ls : List Sv.rl.Ent} (h : Sv.Ents w u ls) (hA : Apart S w w') (hS : ∀ x ∈ S, NoEnt w x) : Sv.Ents w' u ls := by
  obtain ⟨A, c, e, hl, hm, h0⟩ := h
  refine ⟨A, c, e, hl, hm, fun hn => ?_⟩
  obtain ⟨b, o, e2, hc⟩ := h0 hn
  refine ⟨b, o, e2, fun k hk => ?_⟩
  obtain ⟨c0, c1⟩ := hc k hk
  have hlt : b < w.heap.size := World.block_lt_of_cell? w ⟨b, _, none⟩ c0
  have hno : b ∉ S := fun hx => hS b hx _ _ _ ⟨c0, c1⟩
  have hb := hA.block b hlt hno
  have k2 : ∀ j, w'.cell? ⟨b, j, none⟩ = w.cell? ⟨b, j, none⟩ := fun j => by unfold World.cell?; rw [hb]
  exact ⟨(k2 _).trans c0, (k2 _).trans c1⟩
theorem results_mid {P : Program} {fn : Func} {p u v : Tmp} {ty : TypeId} (h : fn.results = #[.tmp u, .cell p ty, .tmp v]) (tmps : Array Value) (w : World) (g : Nat) (t : TypeId) (cs : Array Value) (fr : Nat × Nat) (d : TypeDesc)
    (hp : tmps.getD p undef = .pointer (some ⟨g, 0, none⟩)) (hg : w.heap[g]? = some (.cells cs t fr))
    (hu : P.underlying ty = some d) (hd : (match d with | .struct _ | .array _ _ => true | _ => false) = true) (hi : (P.info? ty).map (·.size) = some cs.size) :
    (results fn tmps).run P w = .ok (.tuple #[tmps.getD u undef, .agg cs, tmps.getD v undef]) w := by
  have hp' : tmps[p]?.getD undef = .pointer (some ⟨g, 0, none⟩) := by simpa using hp
  simp [results, h, hp', asAddr, run_loadVar_row w g t ty cs fr d hg hu hd hi]
section
variable {w0 w : World} {p b g s : Nat} {d : vd.Disk} {l : wl.L}
/-- a store that holds a log -/
abbrev St (w : World) (s g : Nat) : Prop := Vb w s [.pointer (some ⟨g, 0, none⟩)] 109
set_option maxHeartbeats 8000000 in
theorem raft_open {d2 : vd.Disk} {ts : List (List UInt8)} {T : Nat} {V : Int} {es : List Sv.rl.Ent} (h : Ldk w0 w p b d) (ht : TabAt w0) (hq : wl.open_ d RAFT = (d2, ts, 0)) (hf : Sv.rl.from_ ts = ((T, V, es), 0)) (hl : ts.length ≤ 10000) (hall : ∀ t ∈ ts, t.length ≤ maxLen) :
    Calls Tryd.prog 29 #[.pointer (some ⟨p, 0, none⟩)] w (fun e w' => ∃ s g u, e = .returned (.tuple #[.pointer (some ⟨s, 0, none⟩), Sv.stV T V u, .int .i64 0]) ∧ Ldk w0 w' p b d2 ∧ Apart [p, b] w w' ∧ w.heap.size ≤ g ∧ w.heap.size ≤ s ∧ St w' s g ∧ Lg w' g p ⟨RAFT, ts.length, false⟩ ∧ Sv.Ents w' u es) := by
  obtain ⟨W, hW⟩ : ∃ W, w.alloc (.cells #[.int .u64 0, .int .i64 0, .slice none 0 0] 61) = W := ⟨_, rfl⟩
  have hb : Below w.heap.size w W := by rw [← hW]; exact (Below.refl _ w).alloc (Nat.le_refl _) _
  have hv : Vb W w.heap.size [.int .u64 0, .int .i64 0, .slice none 0 0] 61 := by rw [← hW]; exact Vb.new w _ _
  have hdW := h.later hb
  have hO := ld_open RAFT hdW (by unfold RAFT; simp) ht
  have HQ := Lib.hid hq
  have HF := Lib.hid hf
  have HALL := Lib.hid hall
  have hpl := h.dk.blk.lt
  have hbl := h.dk.map.lt
  have H := Lib.hid h
  clear hq hf hall h
  go_enter Tryd.func29, Tryd.ntmps29
  go_wp2_with fail
  refine hO.mono ?_
  rintro e w1 h1
  obtain ⟨A, c, g, rfl, hd1, hA1, hg1, hk1, hl1⟩ := h1.ok HQ.out
  have hv1 : Vb w1 w.heap.size _ _ := hv.apart hA1 (by simp; omega)
  have hfr := Sv.from_any (.slice A ts.length c) ts w1 (sv_strs (hk1 w1 (.refl _ _))) hl HALL.out
  unfold Sv.FromPost at hfr
  rw [HF.out] at hfr
  have R1 := Lib.hid (And.intro hd1 (And.intro hl1 hv1))
  have hgs := hb.size
  clear hO h1 hk1 hd1 hl1 hv hv1 hdW
  go_wp2_with fail
  refine hfr.mono ?_
  rintro e w2 ⟨u, rfl, hE, hb2⟩
  obtain ⟨A2, c2, rfl⟩ : ∃ A c, u = .slice A es.length c := hE.form
  unfold Sv.stV
  obtain ⟨hd1, hl1, hv1⟩ := R1.out
  have hv2 : Vb w2 w.heap.size _ _ := (hb2.block _ hv1.lt).trans hv1
  have hd2 := hd1.later hb2
  have hl2 : Lg w2 g p _ := (hb2.block _ (Vb.lt hl1)).trans hl1
  have hA2 : Apart [p, b] w w2 := ((Apart.of_below hb _).trans hA1).trans (.of_below hb2 _)
  obtain ⟨W2, hW2⟩ : ∃ W2, w2.alloc (.cells #[.int .u64 (T : Int), .int .i64 V, .slice A2 es.length c2] 61) = W2 := ⟨_, rfl⟩
  have hb3 : Below w2.heap.size w2 W2 := by rw [← hW2]; exact (Below.refl _ w2).alloc (Nat.le_refl _) _
  have hs3 : W2.heap.size = w2.heap.size + 1 := by rw [← hW2]; exact Array.size_push _
  have hv3 : Vb W2 w.heap.size _ _ := (hb3.block _ hv2.lt).trans hv2
  have hx3 : Vb W2 w2.heap.size [.int .u64 (T : Int), .int .i64 V, .slice A2 es.length c2] 61 := by rw [← hW2]; exact Vb.new w2 _ _
  have q0 := hx3.cell 0 _ rfl
  have q1 := hx3.cell 1 _ rfl
  have q2 := hx3.cell 2 _ rfl
  have y0 := hv3.cell 0 _ rfl
  have y1 := hv3.cell 1 _ rfl
  have y2 := hv3.cell 2 _ rfl
  have z0 := hv3.free 0
  have z1 := hv3.free 1
  have z2 := hv3.free 2
  have hb4 : Below W2.heap.size W2 (W2.alloc (.cells #[.pointer (some ⟨g, 0, none⟩)] 109)) := (Below.refl _ W2).alloc (Nat.le_refl _) _
  have hv4 : Vb (W2.alloc (.cells #[.pointer (some ⟨g, 0, none⟩)] 109)) w.heap.size _ _ := (hb4.block _ hv3.lt).trans hv3
  have v0 := hv4.cell 0 _ rfl
  have v1 := hv4.cell 1 _ rfl
  have v2 := hv4.cell 2 _ rfl
  have f0 := hv4.free 0
  have f1 := hv4.free 1
  have f2 := hv4.free 2
  have x0 := cell_later hb4 q0
  have x1 := cell_later hb4 q1
  have x2 := cell_later hb4 q2
  obtain ⟨W3, hW3⟩ : ∃ W3, W2.alloc (.cells #[.pointer (some ⟨g, 0, none⟩)] 109) = W3 := ⟨_, rfl⟩
  have hst3 : Vb W3 (w2.heap.size + 1) [.pointer (some ⟨g, 0, none⟩)] 109 := by
    have := Vb.new W2 [.pointer (some ⟨g, 0, none⟩)] 109
    rw [hs3] at this
    rw [← hW3]; exact this
  rw [hW3] at hb4 hv4 v0 v1 v2 f0 f1 f2 x0 x1 x2
  have hws : w.heap.size < w2.heap.size := by have := hv2.lt; exact this
  have hgne : g ≠ w.heap.size := by have : W.heap.size = w.heap.size + 1 := by { rw [← hW]; exact Array.size_push _ }; omega
  obtain ⟨W5, hW5⟩ : ∃ W5, (((W3.setCell ⟨w.heap.size, 0, none⟩ (.int .u64 (T : Int))).setCell ⟨w.heap.size, 1, none⟩ (.int .i64 V)).setCell ⟨w.heap.size, 2, none⟩ (.slice A2 es.length c2)).drew = W5 := ⟨_, rfl⟩
  have hA5 : Apart [w.heap.size] W3 W5 := by
    rw [← hW5]
    exact (((Apart.setCell W3 w.heap.size 0 _).trans (Apart.setCell _ w.heap.size 1 _)).trans (Apart.setCell _ w.heap.size 2 _)).trans (.drew _ _)
  have hx5 : Vb W5 w.heap.size [.int .u64 (T : Int), .int .i64 V, .slice A2 es.length c2] 61 := by
    rw [← hW5]
    exact ((hv4.set 0 _).set 1 _).set 2 _
  have hd3 := (hd2.later hb3).later hb4
  have hd5 : Ldk w0 W5 p b d2 := hd3.next hA5 (by have := H.out.bel.size; simp; omega) (hd3.dk.apart hA5 (by simp; omega) (by simp; omega)) hd3.ok rfl
  have hl3 : Lg W3 g p _ := (hb4.block _ (Vb.lt (show Lg W2 g p _ from (hb3.block _ (Vb.lt hl2)).trans hl2))).trans ((hb3.block _ (Vb.lt hl2)).trans hl2)
  have hl5 : Lg W5 g p ⟨RAFT, ts.length, false⟩ := hl3.apart hA5 (by simpa using hgne)
  have hst5 : St W5 (w2.heap.size + 1) g := hst3.apart hA5 (by simp; omega)
  have hE3 : Sv.Ents W3 (.slice A2 es.length c2) es := (hE.below hb3).below hb4
  have hE5 : Sv.Ents W5 (.slice A2 es.length c2) es := ents_keep hE3 hA5 (by
    intro x hx
    obtain rfl : x = w.heap.size := by simpa using hx
    refine noent_of hv4 ?_
    rintro j n s ⟨h1, h2⟩
    match j, h1, h2 with
    | 0, _, h2 => simp at h2
    | 1, h1, _ => simp at h1
    | 2, h1, _ => simp at h1
    | k + 3, h1, _ => simp at h1)
  have hA05 : Apart [p, b] w W5 := (((hA2.trans (.of_below hb3 _)).trans (.of_below hb4 _))).then hA5 (by simp) (by simp)
  have R2 := Lib.hid (And.intro hd5 (And.intro hl5 (And.intro hA05 (And.intro hE5 (And.intro hst5 hx5)))))
  have hsb : w.heap.size ≤ w2.heap.size + 1 := by omega
  have hgb : w.heap.size ≤ g := by have := hb.size; omega
  have HSB := Lib.hid hsb
  have HGB := Lib.hid hgb
  clear hx5 hd3 hd5 hl3 hl5 hst5 hE3 hE5 hA05 hA5 hst3 hgne hsb hgb
  clear hfr hd1 hl1 hv1 hv2 hd2 hl2 hA2 hE hA1 hv3 hv4 hb4
  go_wp2_with fail
  go_region
  all_goals go_wp2
  all_goals
    obtain ⟨hd5, hl5, hA05, hE5, hst5, hx5⟩ := R2.out
    refine bodyPost_ret (results_mid rfl _ _ w.heap.size _ _ (0, 0) _ rfl hx5 Tryd.underlying61 rfl Sv.state_size) rfl ?_
    exact ⟨w2.heap.size + 1, g, .slice A2 es.length c2, rfl, hd5, hA05, HGB.out, HSB.out, hst5, hl5, hE5⟩
end
end Go.Proofs.YtdnoeahhidmkbaaDoor
