/- A node that is being changed: the box of a step, what it has sent so far, and what stays. -/
import Derived.Test.YtkoidphhlfjlhaaRfModel
import Derived.Test.YtkoidphhlfjlhaaRfMatchSome
import Derived.Deep.MidRow
import Derived.Deep.RegionHeld3
import Derived.Deep.RegionLaw
import Derived.Deep.DeepCutAuto
import Derived.Laws.OwnMore
namespace Go.Proofs.Ytkoidphhlfjlhaa
open Go Go.RowKit Go.Deep
set_option maxRecDepth 100000

/-- a node's cells -/
def ndC (n : rf.Node) (ev : Value) : List Value :=
  .int .i64 n.id :: .int .i64 n.many :: .int .u64 (n.term : Int) :: .int .i64 n.vote :: ev :: .int .i64 n.role :: .int .i64 n.lead :: .int .u64 (n.commit : Int) :: .int .i64 n.idle ::
    (n.votes.map (fun b => Value.bool b) ++ (n.next.map (fun (k : Nat) => Value.int .u64 (k : Int)) ++ n.mat.map (fun (k : Nat) => Value.int .u64 (k : Int))))
def stC (n : rf.Node) (ev sv : Value) : List Value := ndC n ev ++ [sv]
def msgC (m : rf.Msg) (ev : Value) : List Value :=
  [.int .i64 m.kind, .int .i64 m.frm, .int .i64 m.dst, .int .u64 (m.term : Int), .int .u64 (m.index : Int), .int .u64 (m.at_ : Int), .int .u64 (m.commit : Int), ev, .bool m.ok]
structure NOk (n : rf.Node) : Prop where
  v7 : n.votes.length = 7
  n7 : n.next.length = 7
  m7 : n.mat.length = 7
  ms : ∀ x ∈ n.mat, x ≤ 1000000000
  ns : ∀ x ∈ n.next, x ≤ 1000000001
theorem ndC_len {n : rf.Node} (h : NOk n) (ev : Value) : (ndC n ev).length = 30 := by
  simp [ndC, h.v7, h.n7, h.m7]
theorem stC_len {n : rf.Node} (h : NOk n) (ev sv : Value) : (stC n ev sv).length = 31 := by
  unfold stC; rw [List.length_append, ndC_len h]; rfl
theorem stC_low {n : rf.Node} (ev sv : Value) (j : Nat) (u : Value) (h : (ndC n ev)[j]? = some u) : (stC n ev sv)[j]? = some u := by
  unfold stC
  rw [List.getElem?_append_left (by
    rcases Nat.lt_or_ge j (ndC n ev).length with h1 | h1
    · exact h1
    · rw [List.getElem?_eq_none h1] at h; cases h)]
  exact h
theorem ndC_vote {n : rf.Node} (h : NOk n) (ev : Value) (i : Nat) (hi : i < 7) : (ndC n ev)[9 + i]? = some (.bool (n.votes.getD i false)) := by
  have hv := h.v7
  unfold ndC
  rw [show 9 + i = i + 1 + 1 + 1 + 1 + 1 + 1 + 1 + 1 + 1 by omega]
  simp only [List.getElem?_cons_succ]
  rw [List.getElem?_append_left (by simp [hv]; exact hi), List.getElem?_map, List.getD_eq_getElem?_getD]
  rw [List.getElem?_eq_getElem (by omega)]
  rfl
theorem ndC_next {n : rf.Node} (h : NOk n) (ev : Value) (i : Nat) (hi : i < 7) : (ndC n ev)[16 + i]? = some (.int .u64 ((n.next.getD i 0 : Nat) : Int)) := by
  have hv := h.v7
  have hn := h.n7
  unfold ndC
  rw [show 16 + i = 7 + i + 1 + 1 + 1 + 1 + 1 + 1 + 1 + 1 + 1 by omega]
  simp only [List.getElem?_cons_succ]
  rw [List.getElem?_append_right (by simp [hv]), List.length_map, hv, show 7 + i - 7 = i by omega, List.getElem?_append_left (by simp [hn]; exact hi), List.getElem?_map, List.getD_eq_getElem?_getD]
  rw [List.getElem?_eq_getElem (by omega)]
  rfl
theorem ndC_mat {n : rf.Node} (h : NOk n) (ev : Value) (i : Nat) (hi : i < 7) : (ndC n ev)[23 + i]? = some (.int .u64 ((n.mat.getD i 0 : Nat) : Int)) := by
  have hv := h.v7
  have hn := h.n7
  have hm := h.m7
  unfold ndC
  rw [show 23 + i = 14 + i + 1 + 1 + 1 + 1 + 1 + 1 + 1 + 1 + 1 by omega]
  simp only [List.getElem?_cons_succ]
  rw [List.getElem?_append_right (by simp [hv]; omega), List.length_map, hv, List.getElem?_append_right (by simp [hn]; omega), List.length_map, hn, show 14 + i - 7 - 7 = i by omega, List.getElem?_map, List.getD_eq_getElem?_getD]
  rw [List.getElem?_eq_getElem (by omega)]
  rfl
theorem stC_sent {n : rf.Node} (h : NOk n) (ev sv : Value) : (stC n ev sv)[30]? = some sv := by
  unfold stC
  rw [List.getElem?_append_right (by rw [ndC_len h]; exact Nat.le_refl _), ndC_len h]
  rfl
theorem stC_setS {n : rf.Node} (h : NOk n) (ev sv u : Value) : (stC n ev sv).set 30 u = stC n ev u := by
  unfold stC
  rw [List.set_append_right _ _ (by rw [ndC_len h]; exact Nat.le_refl _), ndC_len h]
  rfl
theorem stC_setV {n : rf.Node} (h : NOk n) (ev sv : Value) (i : Nat) (hi : i < 7) (b : Bool) : (stC n ev sv).set (9 + i) (.bool b) = stC { n with votes := n.votes.set i b } ev sv := by
  have hv := h.v7
  unfold stC
  rw [List.set_append_left _ _ (by rw [ndC_len h]; omega)]
  congr 1
  unfold ndC
  rw [show 9 + i = i + 1 + 1 + 1 + 1 + 1 + 1 + 1 + 1 + 1 by omega]
  simp only [List.set_cons_succ]
  rw [List.set_append_left _ _ (by simp [hv]; exact hi), List.map_set]
theorem stC_setN {n : rf.Node} (h : NOk n) (ev sv : Value) (i : Nat) (hi : i < 7) (x : Nat) : (stC n ev sv).set (16 + i) (.int .u64 (x : Int)) = stC { n with next := n.next.set i x } ev sv := by
  have hv := h.v7
  have hn := h.n7
  unfold stC
  rw [List.set_append_left _ _ (by rw [ndC_len h]; omega)]
  congr 1
  unfold ndC
  rw [show 16 + i = 7 + i + 1 + 1 + 1 + 1 + 1 + 1 + 1 + 1 + 1 by omega]
  simp only [List.set_cons_succ]
  rw [List.set_append_right _ _ (by simp [hv]), List.length_map, hv, show 7 + i - 7 = i by omega, List.set_append_left _ _ (by simp [hn]; exact hi)]
  simp only [List.map_set]
theorem stC_setM {n : rf.Node} (h : NOk n) (ev sv : Value) (i : Nat) (hi : i < 7) (x : Nat) : (stC n ev sv).set (23 + i) (.int .u64 (x : Int)) = stC { n with mat := n.mat.set i x } ev sv := by
  have hv := h.v7
  have hn := h.n7
  unfold stC
  rw [List.set_append_left _ _ (by rw [ndC_len h]; omega)]
  congr 1
  unfold ndC
  rw [show 23 + i = 14 + i + 1 + 1 + 1 + 1 + 1 + 1 + 1 + 1 + 1 by omega]
  simp only [List.set_cons_succ]
  rw [List.set_append_right _ _ (by simp [hv]; omega), List.length_map, hv, List.set_append_right _ _ (by simp [hn]; omega), List.length_map, hn, show 14 + i - 7 - 7 = i by omega]
  simp only [List.map_set]

/-- all blocks stay but the box, and rows of messages -/
structure Keeps (s : Nat) (w w' : World) : Prop where
  os : w'.os = w.os
  tape : w'.tape = w.tape
  output : w'.output = w.output
  size : w.heap.size ≤ w'.heap.size
  block : ∀ k, k < w.heap.size → k ≠ s → (∀ cur, w.heap[k]? ≠ some (.cells cur 27 (0, 0))) → w'.heap[k]? = w.heap[k]?
theorem Keeps.refl (s : Nat) (w : World) : Keeps s w w := ⟨rfl, rfl, rfl, Nat.le_refl _, fun _ _ _ _ => rfl⟩
theorem Keeps.trans {s : Nat} {a b c : World} (h : Keeps s a b) (k : Keeps s b c) : Keeps s a c :=
  ⟨k.os.trans h.os, k.tape.trans h.tape, k.output.trans h.output, Nat.le_trans h.size k.size, fun i hi hs hm => by
    have e := h.block i hi hs hm
    exact (k.block i (Nat.lt_of_lt_of_le hi h.size) hs (fun cur => by rw [e]; exact hm cur)).trans e⟩
theorem Keeps.below {s : Nat} {w w' : World} (h : Below w.heap.size w w') : Keeps s w w' := ⟨h.os, h.tape, h.output, h.size, fun k hk _ _ => h.block k hk⟩
theorem Keeps.set (s j : Nat) (w : World) (u : Value) : Keeps s w (w.setCell ⟨s, j, none⟩ u) :=
  ⟨rfl, rfl, rfl, by simp [World.setCell], fun k _ hne _ => Below.heap_setCell _ _ _ k hne⟩
theorem Keeps.drew (s : Nat) (w : World) : Keeps s w w.drew := Keeps.below (below_drewN (Below.refl _ w) 1)
theorem Keeps.alloc (s : Nat) (w : World) (o : Obj) : Keeps s w (w.alloc o) := Keeps.below ((Below.refl _ w).alloc (Nat.le_refl _) _)
theorem Keeps.blk {s g : Nat} {w w' : World} {vs : List Value} {t : TypeId} (h : Keeps s w w') (hb : Blk w g vs t) (hs : g ≠ s) (ht : t ≠ 27) : Blk w' g vs t :=
  (h.block g hb.lt hs (fun cur e => by unfold Blk at hb; rw [hb] at e; injection e with e; injection e with _ e2 _; exact ht e2)).trans hb
/-- a box that is none of the rows of messages, behind a call -/
theorem Keeps.row {s : Nat} {w w' : World} {base n : Nat} {v : Value} {xs : List Value} (h : w.ownsRow base 27 9 v n xs) (hg : w.grownBy w' v.ownBlock) : Keeps s w w' :=
  ⟨hg.os, hg.tape, hg.output, hg.size, fun k hk _ hm => hg.block k hk (by
    intro e
    rcases h.2 with ⟨rfl, _⟩ | ⟨g, cap, cur, rfl, _, hh, _⟩
    · cases e
    · injection e with e
      subst e
      exact hm cur hh)⟩
/-- entries that no step changes -/
def EntsB (base : Nat) (w : World) (ev : Value) (ls : List rl.Ent) : Prop :=
  Ents w ev ls ∧ ∀ b o n c, ev = .slice (some ⟨b, o, none⟩) n c → 0 < ls.length → b < w.heap.size ∧ (b < base ∨ ∃ cur, w.heap[b]? = some (.cells cur 54 (0, 0)))
theorem EntsB.form {base : Nat} {w : World} {ev : Value} {ls : List rl.Ent} (h : EntsB base w ev ls) : ∃ A c, ev = .slice A ls.length c := by
  obtain ⟨⟨A, c, e, _⟩, _⟩ := h
  exact ⟨A, c, e⟩
theorem Ents.lt {w : World} {b o n c : Nat} {ls : List rl.Ent} (h : Ents w (.slice (some ⟨b, o, none⟩) n c) ls) (h0 : 0 < ls.length) : b < w.heap.size := by
  obtain ⟨A, c', e, _, _, hc⟩ := h
  obtain ⟨b', o', rfl, hA⟩ := hc h0
  injection e with e1 _ _
  injection e1 with e1
  injection e1 with e1 _ _
  subst e1
  exact World.block_lt_of_cell? _ _ (hA 0 h0).1
theorem EntsB.of_low {base : Nat} {w : World} {ev : Value} {ls : List rl.Ent} (h : Ents w ev ls) (hb : w.heap.size ≤ base) : EntsB base w ev ls :=
  ⟨h, fun b o n c e h0 => by subst e; exact ⟨h.lt h0, .inl (Nat.lt_of_lt_of_le (h.lt h0) hb)⟩⟩
theorem EntsB.of_owns {base base' : Nat} {w : World} {ev : Value} {ls : List rl.Ent} (h : w.ownsRow base' 54 2 ev ls.length (entCells ls)) : EntsB base w ev ls :=
  ⟨ents_of_owns h, fun b o n c e h0 => by
    subst e
    refine ⟨(ents_of_owns h).lt h0, .inr ?_⟩
    rcases h.2 with ⟨e1, e2⟩ | ⟨g, cap, cur, e1, _, hh, _⟩
    · cases e1
    · injection e1 with e1 _ _
      injection e1 with e1
      injection e1 with e1 _ _
      subst e1
      exact ⟨cur, hh⟩⟩
theorem EntsB.keep {base s : Nat} {w w' : World} {ev : Value} {ls : List rl.Ent} {vs : List Value} (h : EntsB base w ev ls) (hk : Keeps s w w') (hb : Below base w w') (hs : Blk w s vs 60) : EntsB base w' ev ls := by
  obtain ⟨⟨A, c, rfl, h1, h2, h3⟩, h4⟩ := h
  have hsame : ∀ b o n c', (Value.slice A ls.length c) = .slice (some ⟨b, o, none⟩) n c' → 0 < ls.length → w'.heap[b]? = w.heap[b]? := by
    intro b o n c' e h0
    obtain ⟨hlt, hh⟩ := h4 b o n c' e h0
    rcases hh with h5 | ⟨cur, h5⟩
    · exact hb.block b h5
    · refine hk.block b hlt (fun e2 => ?_) (fun cur2 e2 => ?_)
      · subst e2
        unfold Blk at hs
        rw [hs] at h5
        injection h5 with h5
        injection h5 with _ h6 _
        exact absurd h6 (by decide)
      · rw [h5] at e2
        injection e2 with e2
        injection e2 with _ h6 _
        exact absurd h6 (by decide)
  refine ⟨⟨A, c, rfl, h1, h2, fun h0 => ?_⟩, fun b o n c' e h0 => ?_⟩
  · obtain ⟨b, o, rfl, hA⟩ := h3 h0
    have e := hsame b o _ _ rfl h0
    refine ⟨b, o, rfl, fun k hk => ?_⟩
    rw [World.cell?_of_block (w := w) (w' := w') (a := ⟨b, o + k * 2, none⟩) e, World.cell?_of_block (w := w) (w' := w') (a := ⟨b, o + k * 2 + 1, none⟩) e]
    exact hA k hk
  · have e2 := hsame b o n c' e h0
    obtain ⟨hlt, hh⟩ := h4 b o n c' e h0
    exact ⟨Nat.lt_of_lt_of_le hlt hk.size, by rw [e2]; exact hh⟩
theorem EntsB.later {base : Nat} {w w' : World} {ev : Value} {ls : List rl.Ent} (h : EntsB base w ev ls) (hb : Below w.heap.size w w') : EntsB base w' ev ls :=
  ⟨h.1.below hb, fun b o n c e h0 => by
    obtain ⟨hlt, hh⟩ := h.2 b o n c e h0
    exact ⟨Nat.lt_of_lt_of_le hlt hb.size, by rw [hb.block b hlt]; exact hh⟩⟩
/-- what was sent so far: a row of its own -/
def Sent (base : Nat) (w : World) (sv : Value) (ms : List rf.Msg) : Prop :=
  ∃ evs : List Value, evs.length = ms.length ∧ w.ownsRow base 27 9 sv ms.length ((ms.zip evs).flatMap fun p => msgC p.1 p.2) ∧ ∀ p ∈ ms.zip evs, EntsB base w p.2 p.1.ents
theorem Sent.nil (base : Nat) (w : World) : Sent base w (.slice none 0 0) [] := ⟨[], rfl, World.ownsRow_nil _ _ _ _, fun p hp => by cases hp⟩
theorem Sent.form {base : Nat} {w : World} {sv : Value} {ms : List rf.Msg} (h : Sent base w sv ms) : ∃ A c, sv = .slice A ms.length c := by
  obtain ⟨evs, _, h, _⟩ := h
  exact owns_slice h
/-- the box of a step: a node as it is by now, and what was sent -/
structure St (base : Nat) (w : World) (s : Nat) (n : rf.Node) (ev sv : Value) (ms : List rf.Msg) : Prop where
  sb : base ≤ s
  blk : Blk w s (stC n ev sv) 60
  ents : EntsB base w ev n.log
  sent : Sent base w sv ms
  ok : NOk n
theorem Sent.keep {base s : Nat} {w w' : World} {sv : Value} {ms : List rf.Msg} {vs : List Value} (h : Sent base w sv ms) (hk : Keeps s w w') (hb : Below base w w') (hs : Blk w s vs 60) (hrow : ∀ k, sv.ownBlock = some k → w'.heap[k]? = w.heap[k]?) : Sent base w' sv ms := by
  obtain ⟨evs, h1, h2, h3⟩ := h
  refine ⟨evs, h1, ?_, fun p hp => (h3 p hp).keep hk hb hs⟩
  refine ⟨h2.1, ?_⟩
  rcases h2.2 with h4 | ⟨g, cap, cur, rfl, hg, hh, hr⟩
  · exact .inl h4
  · exact .inr ⟨g, cap, cur, rfl, hg, by rw [hrow g rfl]; exact hh, hr⟩
/-- nothing but new blocks -/
theorem St.later {base s : Nat} {w w' : World} {n : rf.Node} {ev sv : Value} {ms : List rf.Msg} (h : St base w s n ev sv ms) (hb : Below w.heap.size w w') (hbase : base ≤ w.heap.size) : St base w' s n ev sv ms :=
  ⟨h.sb, h.blk.below hb, h.ents.later hb, h.sent.keep (Keeps.below hb) (hb.mono hbase) h.blk (fun k hk => by
    obtain ⟨evs, _, h2, _⟩ := h.sent
    exact hb.block k (h2.lt k hk).2), h.ok⟩
/-- one cell of the node is stored -/
theorem St.store {base s : Nat} {w : World} {n n' : rf.Node} {ev sv : Value} {ms : List rf.Msg} (h : St base w s n ev sv ms) (j : Nat) (u : Value) (hc : (stC n ev sv).set j u = stC n' ev sv) (hl : n'.log = n.log) (ho : NOk n') :
    St base (w.setCell ⟨s, j, none⟩ u) s n' ev sv ms := by
  have hb : Below base w (w.setCell ⟨s, j, none⟩ u) := (Below.refl _ w).setCell (p := ⟨s, j, none⟩) h.sb u
  have h1 := h.blk.set j u
  rw [hc] at h1
  refine ⟨h.sb, h1, by rw [hl]; exact h.ents.keep (Keeps.set s j w u) hb h.blk, h.sent.keep (Keeps.set s j w u) hb h.blk (fun k hk => ?_), ho⟩
  obtain ⟨evs, _, h2, _⟩ := h.sent
  refine Below.heap_setCell _ _ _ k (fun e => ?_)
  have hb2 := h.blk
  rcases h2.2 with ⟨rfl, _⟩ | ⟨g, cap, cur, rfl, _, hh, _⟩
  · cases hk
  · injection hk with hk
    subst hk
    have e : g = s := e
    subst e
    unfold Blk at hb2
    rw [hb2] at hh
    injection hh with hh
    injection hh with _ h6 _
    exact absurd h6 (by decide)
/-- what a call on a step's box leaves -/
def StTo (base : Nat) (w : World) (s : Nat) (n' : rf.Node) (ms' : List rf.Msg) (w' : World) : Prop :=
  ∃ A c B d, St base w' s n' (.slice A n'.log.length c) (.slice B ms'.length d) ms' ∧ Keeps s w w' ∧ Below base w w'
theorem St.cell {base s : Nat} {w : World} {n : rf.Node} {ev sv : Value} {ms : List rf.Msg} (h : St base w s n ev sv ms) (j : Nat) (u : Value) (hj : (stC n ev sv)[j]? = some u) : w.cell? ⟨s, j, none⟩ = some u := h.blk.cell j u hj
theorem St.free {base s : Nat} {w : World} {n : rf.Node} {ev sv : Value} {ms : List rf.Msg} (h : St base w s n ev sv ms) (j : Nat) : w.frozen? ⟨s, j, none⟩ = false := h.blk.free j
theorem St.to {base s : Nat} {w w' : World} {n : rf.Node} {ev sv : Value} {ms : List rf.Msg} (h : St base w' s n ev sv ms) (hk : Keeps s w w') (hb : Below base w w') : StTo base w s n ms w' := by
  obtain ⟨A, c, rfl⟩ := h.ents.form
  obtain ⟨B, d, rfl⟩ := h.sent.form
  exact ⟨A, c, B, d, h, hk, hb⟩
/-- the box since the world w0 -/
structure Sx (base : Nat) (w0 w : World) (s : Nat) (n : rf.Node) (ev sv : Value) (ms : List rf.Msg) : Prop where
  st : St base w s n ev sv ms
  keeps : Keeps s w0 w
  below : Below base w0 w
section
variable {base s : Nat} {w0 w w' : World} {n n' : rf.Node} {ev sv : Value} {ms ms' : List rf.Msg}
theorem St.baseLe (h : St base w s n ev sv ms) : base ≤ w.heap.size := Nat.le_of_lt (Nat.lt_of_le_of_lt h.sb h.blk.lt)
theorem Sx.start (h : St base w s n ev sv ms) : Sx base w w s n ev sv ms := ⟨h, Keeps.refl _ _, Below.refl _ _⟩
theorem Sx.later (h : Sx base w0 w s n ev sv ms) (hb : Below w.heap.size w w') : Sx base w0 w' s n ev sv ms :=
  ⟨h.st.later hb h.st.baseLe, h.keeps.trans (Keeps.below hb), h.below.trans (hb.mono h.st.baseLe)⟩
theorem Sx.drew (h : Sx base w0 w s n ev sv ms) : Sx base w0 w.drew s n ev sv ms := h.later (below_drewN (Below.refl _ w) 1)
theorem Sx.store (h : Sx base w0 w s n ev sv ms) (j : Nat) (u : Value) (hc : (stC n ev sv).set j u = stC n' ev sv) (hl : n'.log = n.log) (ho : NOk n') : Sx base w0 (w.setCell ⟨s, j, none⟩ u) s n' ev sv ms :=
  ⟨h.st.store j u hc hl ho, h.keeps.trans (Keeps.set s j w u), h.below.trans ((Below.refl _ w).setCell (p := ⟨s, j, none⟩) h.st.sb u)⟩
theorem Sx.to (h : Sx base w0 w s n ev sv ms) : StTo base w0 s n ms w := h.st.to h.keeps h.below
theorem Sx.call (h : Sx base w0 w s n ev sv ms) (k : StTo base w s n' ms' w') : ∃ A c B d, Sx base w0 w' s n' (.slice A n'.log.length c) (.slice B ms'.length d) ms' := by
  obtain ⟨A, c, B, d, h1, h2, h3⟩ := k
  exact ⟨A, c, B, d, h1, h.keeps.trans h2, h.below.trans h3⟩
theorem NOk.of {n n' : rf.Node} (h : NOk n) (h1 : n'.votes = n.votes) (h2 : n'.next = n.next) (h3 : n'.mat = n.mat) : NOk n' := ⟨by rw [h1]; exact h.v7, by rw [h2]; exact h.n7, by rw [h3]; exact h.m7, by rw [h3]; exact h.ms, by rw [h2]; exact h.ns⟩
end
end Go.Proofs.Ytkoidphhlfjlhaa
