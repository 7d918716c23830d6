/- send: walked. -/
import Derived.Test.YtkoidphhlfjlhaaRfBack
namespace Go.Proofs.Ytkoidphhlfjlhaa
open Go Go.RowKit Go.Deep
set_option maxRecDepth 100000

theorem info_msg : (Try.prog.info? 27).map (fun i => (i.zero, i.size, i.bytes)) = some (some (.agg #[.int .i64 0, .int .i64 0, .int .i64 0, .int .u64 0, .int .u64 0, .int .u64 0, .int .u64 0, .slice none 0 0, .bool false]), 9, 88) := by kernel_rfl
theorem cells_newL (w : World) (vs : List Value) (e : TypeId) : ∀ j u, vs[j]? = some u → (w.alloc (.cells vs.toArray e)).cell? ((⟨w.heap.size, 0, none⟩ : Addr).add j) = some u := by
  intro j u hj
  have h := heap_alloc_new w (.cells vs.toArray e)
  rw [addr_add, cell_of_row _ _ _ _ _ _ h]
  simpa using hj
theorem msgC_one {m : rf.Msg} {ev : Value} (h : ev.oneCell' = true) : ∀ u ∈ msgC m ev, u.oneCell' = true := by
  intro u hu
  simp only [msgC, List.mem_cons, List.not_mem_nil, or_false] at hu
  rcases hu with rfl | rfl | rfl | rfl | rfl | rfl | rfl | rfl | rfl <;> first | rfl | exact h
theorem Sent.more {base : Nat} {w' : World} {ms : List rf.Msg} {m : rf.Msg} {em v' : Value} (evs : List Value) (hl : evs.length = ms.length)
    (hr : w'.ownsRow base 27 9 v' (ms.length + 1) ((ms.zip evs).flatMap (fun p => msgC p.1 p.2) ++ msgC m em)) (he : ∀ p ∈ ms.zip evs, EntsB base w' p.2 p.1.ents) (hm : EntsB base w' em m.ents) : Sent base w' v' (ms ++ [m]) := by
  refine ⟨evs ++ [em], by simp [hl], ?_, ?_⟩
  · rw [List.zip_append (by rw [hl]), List.flatMap_append, List.length_append]
    simpa using hr
  · rw [List.zip_append (by rw [hl])]
    intro p hp
    rcases List.mem_append.1 hp with h1 | h1
    · exact he p h1
    · simp at h1
      subst h1
      exact hm
theorem row_ne {w : World} {base s n : Nat} {v : Value} {xs vs : List Value} (h : w.ownsRow base 27 9 v n xs) (hb : Blk w s vs 60) : some s ≠ v.ownBlock := by
  rcases h.2 with ⟨rfl, _⟩ | ⟨g, cap, cur, rfl, _, hh, _⟩
  · intro e; cases e
  · intro e
    injection e with e
    have e : s = g := e
    subst e
    unfold Blk at hb
    rw [hb] at hh
    injection hh with hh
    injection hh with _ h6 _
    exact absurd h6 (by decide)
/-- a row of messages has grown by one, and lies in the box -/
theorem Sx.grow {base s : Nat} {w0 X w3 : World} {n : rf.Node} {ev sv v' : Value} {ms : List rf.Msg} {m : rf.Msg} {em : Value} {o : Obj} {evs xs : List Value} (h : Sx base w0 X s n ev sv ms) (hl : evs.length = ms.length) (hx : ((ms.zip evs).flatMap fun p => msgC p.1 p.2) = xs)
    (hr : X.ownsRow base 27 9 sv ms.length xs) (he : ∀ p ∈ ms.zip evs, EntsB base X p.2 p.1.ents) (hm : EntsB base X em m.ents) (ho : w3.ownsRow base 27 9 v' (ms.length + 1) (xs ++ msgC m em)) (hg : (X.drew.alloc o).grownBy w3 sv.ownBlock) :
    Blk w3 s (stC n ev sv) 60 ∧ Sx base w0 (w3.setCell ⟨s, 30, none⟩ v') s n ev v' (ms ++ [m]) := by
  have hb0 : Blk (X.drew.alloc o) s (stC n ev sv) 60 := Blk.alloc (w := X.drew) h.st.blk o
  have hr0 : (X.drew.alloc o).ownsRow base 27 9 sv ms.length xs := World.ownsRow.alloc (w := X.drew) hr o
  have hb3 := hb0.grown hg (row_ne hr h.st.blk)
  have hlow : ∀ j, sv.ownBlock = some j → base ≤ j := fun j hj => (hr.lt j hj).1
  have hB1 : Below base X (X.drew.alloc o) := (below_drewN (Below.refl base X) 1).alloc h.st.baseLe o
  have hB2 : Below base X w3 := hB1.grown hg (by have := h.st.baseLe; simp; omega) hlow
  have hB3 : Below base X (w3.setCell ⟨s, 30, none⟩ v') := hB2.trans ((Below.refl _ w3).setCell (p := ⟨s, 30, none⟩) h.st.sb v')
  have hK : Keeps s X (w3.setCell ⟨s, 30, none⟩ v') := (((Keeps.drew s X).trans (Keeps.alloc s X.drew o)).trans (Keeps.row hr0 hg)).trans (Keeps.set s 30 w3 v')
  have h4 := hb3.set 30 v'
  rw [stC_setS h.st.ok] at h4
  refine ⟨hb3, ⟨⟨h.st.sb, h4, h.st.ents.keep hK hB3 h.st.blk, ?_, h.st.ok⟩, h.keeps.trans hK, h.below.trans hB3⟩⟩
  have hne := row_ne ho hb3
  have hr3 := ho.kept (set_grown w3 ⟨s, 30, none⟩ v') (.inr fun e => hne e.symm)
  subst hx
  exact Sent.more evs hl hr3 (fun p hp => (he p hp).keep hK hB3 h.st.blk) (hm.keep hK hB3 h.st.blk)
set_option maxHeartbeats 4000000 in
theorem send_any {base s : Nat} {w : World} {n : rf.Node} {ev : Value} {A B : Option Addr} {k c d : Nat} {ms : List rf.Msg} (m : rf.Msg) (h : St base w s n ev (.slice B ms.length d) ms) (hm : EntsB base w (.slice A k c) m.ents) (hl : ms.length ≤ 1000) :
    Calls Try.prog 29 #[.pointer (some ⟨s, 0, none⟩), .agg #[.int .i64 m.kind, .int .i64 m.frm, .int .i64 m.dst, .int .u64 (m.term : Int), .int .u64 (m.index : Int), .int .u64 (m.at_ : Int), .int .u64 (m.commit : Int), .slice A k c, .bool m.ok]] w fun e w' => e = .returned (.tuple #[]) ∧ StTo base w s n (ms ++ [rf.stamp n m]) w' := by
  obtain ⟨i0, hi, hz0, hz1, hz2⟩ := info_parts info_msg
  obtain ⟨W1, hW1⟩ : ∃ W, w.alloc (.cells #[.int .i64 m.kind, .int .i64 m.frm, .int .i64 m.dst, .int .u64 (m.term : Int), .int .u64 (m.index : Int), .int .u64 (m.at_ : Int), .int .u64 (m.commit : Int), .slice A k c, .bool m.ok] 27) = W := ⟨_, rfl⟩
  obtain ⟨bx, hbx⟩ : ∃ x, w.heap.size = x := ⟨_, rfl⟩
  have hb1 : Below w.heap.size w W1 := by rw [← hW1]; exact (Below.refl _ w).alloc (Nat.le_refl _) _
  have bl : Blk W1 bx [.int .i64 m.kind, .int .i64 m.frm, .int .i64 m.dst, .int .u64 (m.term : Int), .int .u64 (m.index : Int), .int .u64 (m.at_ : Int), .int .u64 (m.commit : Int), .slice A k c, .bool m.ok] 27 := by rw [← hW1, ← hbx]; exact Blk.new w _ _
  have hx1 := (Sx.start h).later hb1
  have n1 : ¬ bx = s := by have := h.blk.lt; omega
  have n2 : ¬ s = bx := fun e => n1 e.symm
  have c0 := hx1.st.cell 0 _ (stC_low ev _ 0 _ rfl)
  have c2 := hx1.st.cell 2 _ (stC_low ev _ 2 _ rfl)
  have x0 := bl.cell 0 _ rfl
  have x1 := bl.cell 1 _ rfl
  have x2 := bl.cell 2 _ rfl
  have x3 := bl.cell 3 _ rfl
  have x4 := bl.cell 4 _ rfl
  have x5 := bl.cell 5 _ rfl
  have x6 := bl.cell 6 _ rfl
  have x7 := bl.cell 7 _ rfl
  have x8 := bl.cell 8 _ rfl
  have f1 := bl.free 1
  have f3 := bl.free 3
  have HX1 := Lib.hid hx1
  have HM := Lib.hid hm
  have HST := Lib.hid h
  have HB1 := Lib.hid hb1
  have HBX := Lib.hid hbx
  have HBL := Lib.hid bl
  have HW1 := Lib.hid hW1
  have HLen := Lib.hid hl
  clear hb1 hx1 hm bl h hW1 hl
  go_enter Try.func29, Try.ntmps29
  go_upto_region 1 with fail
  rw [HW1.out]
  clear HW1
  go_region
  obtain ⟨X2, hX2⟩ : ∃ X, ((W1.setCell ⟨bx, 1, none⟩ (.int .i64 n.id)).setCell ⟨bx, 3, none⟩ (.int .u64 (n.term : Int))).drew = X := ⟨_, rfl⟩
  have hb2 : Below w.heap.size w X2 := by
    rw [← hX2, HBX.out]
    exact below_drewN (((Below.setCell (p := ⟨bx, 1, none⟩) (by rw [← HBX.out]; exact HB1.out) (by exact Nat.le_refl bx) _).setCell (p := ⟨bx, 3, none⟩) (by exact Nat.le_refl bx) _)) 1
  have bl2 : Blk X2 bx [.int .i64 m.kind, .int .i64 n.id, .int .i64 m.dst, .int .u64 (n.term : Int), .int .u64 (m.index : Int), .int .u64 (m.at_ : Int), .int .u64 (m.commit : Int), .slice A k c, .bool m.ok] 27 := by
    rw [← hX2]
    exact (HBL.out.set 1 _).set 3 _
  rw [hX2]
  have hx2 := (Sx.start HST.out).later hb2
  have hx2a := hx2.later ((Below.refl _ X2).alloc (Nat.le_refl _) (.cells #[.int .i64 m.kind, .int .i64 n.id, .int .i64 m.dst, .int .u64 (n.term : Int), .int .u64 (m.index : Int), .int .u64 (m.at_ : Int), .int .u64 (m.commit : Int), .slice A k c, .bool m.ok] 27))
  have c30a := hx2a.st.cell 30 _ (stC_sent HST.out.ok ev _)
  have f30a := hx2a.st.free 30
  clear hx2a
  have n3 : ¬ X2.heap.size = s := by have := hx2.st.blk.lt; omega
  have n4 : ¬ s = X2.heap.size := fun e => n3 e.symm
  have c30 := hx2.st.cell 30 _ (stC_sent HST.out.ok ev _)
  have f30 := hx2.st.free 30
  have x0 := bl2.cell 0 _ rfl
  have x1 := bl2.cell 1 _ rfl
  have x2 := bl2.cell 2 _ rfl
  have x3 := bl2.cell 3 _ rfl
  have x4 := bl2.cell 4 _ rfl
  have x5 := bl2.cell 5 _ rfl
  have x6 := bl2.cell 6 _ rfl
  have x7 := bl2.cell 7 _ rfl
  have x8 := bl2.cell 8 _ rfl
  have HX2 := Lib.hid hx2
  obtain ⟨evs, hev1, hev2, hev3⟩ := hx2.st.sent
  obtain ⟨xs, hxs⟩ : ∃ xs, ((ms.zip evs).flatMap fun p => msgC p.1 p.2) = xs := ⟨_, rfl⟩
  rw [hxs] at hev2
  have HXS := Lib.hid hxs
  have HR2 := Lib.hid hev2
  clear hxs
  have HE3 := Lib.hid hev3
  have HE1 := Lib.hid hev1
  have HM2 := Lib.hid (HM.out.later hb2)
  clear hb2 bl2 hX2 hx2 hev1 hev2 hev3
  go_upto_region 2 with fail
  go_region_law (refine step_append_own rfl (.tmp 21) (.tmp 23) 37 rfl base 27 i0 _ 9 88 Try.underlying37 hi hz0 hz1 hz2 rfl (by decide) (.slice B ms.length d) ms.length xs (by simp [Act.eval]) ?_ ⟨X2.heap.size, 0, none⟩ 1 1 (msgC (rf.stamp n m) (.slice A k c)) (by simp [Act.eval]) rfl ?_ (msgC_one rfl) ?_ ?_ ?_ ?_; exact World.ownsRow.alloc (w := X2.drew) HR2.out _; exact cells_newL X2.drew (msgC (rf.stamp n m) (.slice A k c)) _; have := HLen.out; unfold maxLen; omega; have := HLen.out; omega; have := HX2.out.st.baseLe; simp; omega; intro v' w3 hown' hgrow'; obtain ⟨A', c', rfl⟩ := owns_slice hown'; have hfin := HX2.out.grow (m := rf.stamp n m) HE1.out HXS.out HR2.out HE3.out HM2.out hown' hgrow'; have c30 := hfin.1.cell 30 _ (stC_sent HST.out.ok ev _); have f30 := hfin.1.free 30)
  all_goals
    have HF := Lib.hid hfin.2
    clear hfin hown' hgrow' c30 f30
    go_wp2
    go_end0
    exact ⟨rfl, HF.out.to⟩
end Go.Proofs.Ytkoidphhlfjlhaa
