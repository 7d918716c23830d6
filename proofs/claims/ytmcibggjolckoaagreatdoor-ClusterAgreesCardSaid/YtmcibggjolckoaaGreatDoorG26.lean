/- KsSave: one behind the other. -/
import Derived.Deep.Slices
import Derived.ChangeSame
import Derived.Test.YtmcibggjolckoaaGreatDoorG25
namespace Go.Proofs.YtmcibggjolckoaaGreatDoor
open Go Go.RowKit Go.ChangeShapes Go.WideShapes Go.Deep
set_option maxRecDepth 100000

structure LSt where
  T : Nat
  V : Int
  u : Value
  es : List rl.Ent
instance : Inhabited LSt := ⟨⟨0, 0, .slice none 0 0, []⟩⟩
structure StAt (w : World) (b o : Nat) (x : LSt) : Prop where
  k0 : w.cell? ⟨b, o, none⟩ = some (.int .u64 (x.T : Int))
  k1 : w.cell? ⟨b, o + 1, none⟩ = some (.int .i64 x.V)
  k2 : w.cell? ⟨b, o + 2, none⟩ = some x.u
  ents : Ents w x.u x.es
  fine : Fine x.es
  top : x.T < 18446744073709551616
def Sts (w : World) (v : Value) (l : List LSt) : Prop :=
  ∃ A c, v = .slice A l.length c ∧ l.length ≤ maxLen ∧ (0 < l.length → ∃ b o, A = some ⟨b, o, none⟩ ∧ ∀ k, k < l.length → StAt w b (o + k * 3) (l.getD k default))
theorem StAt.below {w w' : World} {b o : Nat} {x : LSt} (h : StAt w b o x) (hb : Below w.heap.size w w') : StAt w' b o x :=
  ⟨cell_later hb h.k0, cell_later hb h.k1, cell_later hb h.k2, h.ents.below hb, h.fine, h.top⟩
theorem sts_of_reading {H : Type} {enc : TypeId × Value → H} {w : World} {base : Nat} {held : Bool} {fuel : Nat} {v : Value} {x : DataW H × List MemPlace} {t e ti tu tl : TypeId}
    {f0 f1 f2 : Field} (ht : Tryz.prog.underlying t = some (.slice e)) (he : Tryz.prog.underlying e = some (.struct #[f0, f1, f2])) (ce : Tryz.prog.cellsOf e = 3) (o0 : f0.offset = 0) (o1 : f1.offset = 1) (o2 : f2.offset = 2)
    (c0 : Tryz.prog.cellsOf f0.type = 1) (c1 : Tryz.prog.cellsOf f1.type = 1) (c2 : Tryz.prog.cellsOf f2.type = 1)
    (e0 : f0.type = tu) (e1 : f1.type = ti) (e2 : f2.type = tl) (u0 : Tryz.prog.underlying tu = some (.int .u64)) (u1 : Tryz.prog.underlying ti = some (.int .i64))
    (hents : ∀ {n : Nat} {v2 : Value} {y : DataW H × List MemPlace}, DataW.trod enc Tryz.prog w base (fun _ => true) held n tl [v2] = some y → ∃ ls, Ents w v2 ls ∧ Fine ls)
    (h : DataW.trod enc Tryz.prog w base (fun _ => true) held fuel t [v] = some x) : ∃ l, Sts w v l := by
  rcases open_slice ht h with h0 | ⟨a, len, cap, m, n, D, Pl, hcs, hb, hl, hm, hmm, _, hx⟩
  · obtain rfl : v = .slice none 0 0 := by simpa using h0.1
    exact ⟨[], none, 0, rfl, Nat.zero_le _, fun h => absurd h (by simp)⟩
  · obtain rfl : v = .slice (some a) len cap := by simpa using hcs
    simp only [if_true] at hmm
    subst hmm
    have each : ∀ i, i < len → ∃ q : LSt, w.cell? (a.add (i * 3)) = some (.int .u64 (q.T : Int)) ∧ w.cell? (a.add (i * 3 + 1)) = some (.int .i64 q.V) ∧ w.cell? (a.add (i * 3 + 2)) = some q.u ∧ Ents w q.u q.es ∧ Fine q.es ∧ q.T < 18446744073709551616 := by
      intro i hi
      obtain ⟨cs', h1, h2⟩ := hx i (by omega)
      rw [ce] at h1
      obtain ⟨_, hlen, hcell⟩ := World.cells?_some h1
      obtain ⟨xs, k, hk, hxy, _, hxl, hf⟩ := DataW.trod_struct he h2
      match xs, hxl, cs', hlen with
      | [y0, y1, y2], _, [v0, v1, v2], _ =>
        have g0 := hf 0 f0 rfl
        have g1 := hf 1 f1 rfl
        have g2 := hf 2 f2 rfl
        simp [o0, o1, o2, c0, c1, c2] at g0 g1 g2
        have d0 := hcell 0 (by omega)
        have d1 := hcell 1 (by omega)
        have d2 := hcell 2 (by omega)
        rw [add_add] at d0 d1 d2
        rw [e0] at g0
        rw [e1] at g1
        rw [e2] at g2
        obtain ⟨z0, hz0, _, hw0⟩ := DataW.trod_int u0 g0
        obtain ⟨z1, hz1, _, hw1⟩ := DataW.trod_int u1 g1
        obtain ⟨ls, hls, hfs⟩ := hents g2
        have hbd := bounds_u64 hw0
        obtain ⟨q0, rfl⟩ := Int.eq_ofNat_of_zero_le hbd.1
        refine ⟨⟨q0, z1, v2, ls⟩, ?_, ?_, ?_, hls, hfs, by simp at hbd ⊢; omega⟩
        · have : v0 = .int .u64 (q0 : Int) := by simpa using hz0
          rw [← this]; simpa using d0
        · have : v1 = .int .i64 z1 := by simpa using hz1
          rw [← this]; simpa using d1
        · simpa using d2
    obtain ⟨q, hq⟩ := choose_lt each
    have hlen : ((List.range len).map q).length = len := by simp
    have hget : ∀ k, k < len → ((List.range len).map q).getD k default = q k := fun k hk => by
      rw [List.getD_eq_getElem?_getD, List.getElem?_map, List.getElem?_range hk]; rfl
    refine ⟨(List.range len).map q, some a, m, by rw [hlen], by rw [hlen]; omega, fun h0 => ?_⟩
    rw [hlen] at h0
    have ha := (hq 0 h0).1
    rw [Nat.zero_mul, show a.add 0 = a from by simp [Addr.add]] at ha
    have hsp := spot_none ha
    refine ⟨a.block, a.off, by rw [← hsp], fun k hk => ?_⟩
    rw [hlen] at hk
    rw [hget k hk]
    obtain ⟨g0, g1, g2, g3, g4, g5⟩ := hq k hk
    rw [hsp, addr_add] at g0 g1 g2
    exact ⟨g0, g1, g2, g3, g4, g5⟩
section
variable {w0 w : World} {p b g s : Nat} {d : vd.Disk} {l : wl.L}
set_option maxHeartbeats 8000000 in
theorem raft_save_bad (T : Nat) (V : Int) (u : Value) (es : List rl.Ent) (hE : Ents w u es) (hV : V < -1 ∨ 254 < V) :
    Calls Tryz.prog 53 #[.pointer (some ⟨s, 0, none⟩), stV T V u] w (fun e w' => e = .returned (.int .i64 1) ∧ Below w.heap.size w w') := by
  obtain ⟨A, c, rfl⟩ := hE.form
  obtain ⟨W, hW⟩ : ∃ W, w.alloc (.cells #[.int .u64 (T : Int), .int .i64 V, .slice A es.length c] 46) = W := ⟨_, rfl⟩
  have hb : Below w.heap.size w W := by rw [← hW]; exact (Below.refl _ w).alloc (Nat.le_refl _) _
  have hv : Vb W w.heap.size [.int .u64 (T : Int), .int .i64 V, .slice A es.length c] 46 := by rw [← hW]; exact Vb.new w _ _
  have q0 := hv.cell 0 _ rfl
  have q1 := hv.cell 1 _ rfl
  have q2 := hv.cell 2 _ rfl
  have ht := texts_bad T V _ es W (hE.below hb) hV
  unfold stV at *
  clear hE hV
  go_enter Tryz.func53, Tryz.ntmps53
  go_wp2_with fail
  refine ht.mono ?_
  rintro e w1 ⟨rfl, hb1⟩
  go_wp2_with fail
  go_ret
  exact ⟨rfl, hb.trans (hb1.mono hb.size)⟩
set_option maxHeartbeats 8000000 in
theorem raft_save (T : Nat) (V : Int) (u : Value) (es : List rl.Ent) (hE : Ents w u es) (h1 : -1 ≤ V) (h2 : V ≤ 254) (hw : Writable T es) (h : Ldk w0 w p b d) (hs : kSt w s g) (hg : Lg w g p l) (hgb : w0.heap.size ≤ g)
    (hf : (crcm.flat (rl.texts T V es)).length ≤ 1000000000) (hm : l.name.length ≤ 200) (ht0 : TabAt w0) :
    Calls Tryz.prog 53 #[.pointer (some ⟨s, 0, none⟩), stV T V u] w (fun e w' => e = .returned (.int .i64 ((wl.reset d l (rl.texts T V es)).2.2 : Nat)) ∧ Ldk w0 w' p b (wl.reset d l (rl.texts T V es)).1 ∧ Lg w' g p (wl.reset d l (rl.texts T V es)).2.1 ∧ Apart [p, b, g] w w') := by
  obtain ⟨A, c, rfl⟩ := hE.form
  obtain ⟨W, hW⟩ : ∃ W, w.alloc (.cells #[.int .u64 (T : Int), .int .i64 V, .slice A es.length c] 46) = W := ⟨_, rfl⟩
  have hb : Below w.heap.size w W := by rw [← hW]; exact (Below.refl _ w).alloc (Nat.le_refl _) _
  have hv : Vb W w.heap.size [.int .u64 (T : Int), .int .i64 V, .slice A es.length c] 46 := by rw [← hW]; exact Vb.new w _ _
  have q0 := hv.cell 0 _ rfl
  have q1 := hv.cell 1 _ rfl
  have q2 := hv.cell 2 _ rfl
  have ht := texts_good T V _ es W (hE.below hb) h1 h2 hw
  have hlen : (rl.texts T V es).length = es.length + 1 := by unfold rl.texts; simp
  have R := Lib.hid (And.intro h (And.intro hs hg))
  have HL := Lib.hid hlen
  have HW2 := Lib.hid hw.2.1
  unfold stV at *
  clear hE h1 h2 hw h hs hg hlen
  go_enter Tryz.func53, Tryz.ntmps53
  go_wp2_with fail
  refine ht.mono ?_
  rintro e w1 ⟨v1, rfl, own1, hb1⟩
  obtain ⟨h, hs, hg⟩ := R.out
  have hb01 := hb.trans (hb1.mono hb.size)
  have hd1 := h.later hb01
  have hs1 : Vb w1 s _ _ := (hb01.block _ (Vb.lt hs)).trans hs
  have hg1 : Lg w1 g p l := (hb01.block _ (Vb.lt hg)).trans hg
  have c0 := hs1.cell 0 _ rfl
  have hst : Strs w1 v1 (rl.texts T V es) := strs_sv (strs_of_owns HL.out.symm own1)
  have hr := ld_reset v1 (rl.texts T V es) hd1 hg1 hgb hst hf (by rw [HL.out]; have := HW2.out; omega) hm ht0
  have hA := Apart.of_below hb01 [p, b, g]
  clear ht h hs hg hd1 hs1 hg1 hst own1
  go_wp2_with fail
  refine hr.mono ?_
  rintro e w2 ⟨rfl, hd2, hg2, hA2⟩
  go_wp2_with fail
  go_ret
  exact ⟨rfl, hd2, hg2, hA.trans hA2⟩
end
end Go.Proofs.YtmcibggjolckoaaGreatDoor
