/- New, Wait, back: walked. -/
import Derived.Test.YtkoidphhlfjlhaaRfBox
namespace Go.Proofs.Ytkoidphhlfjlhaa
open Go Go.RowKit Go.Deep
set_option maxRecDepth 100000

theorem results_cell_one {P : Program} {fn : Func} {p u : Tmp} {ty : TypeId} (h : fn.results = #[.cell p ty, .tmp u]) (tmps : Array Value) (w : World) (g : Nat) (t : TypeId) (cs : Array Value) (fr : Nat × Nat) (d : TypeDesc)
    (hp : tmps.getD p undef = .pointer (some ⟨g, 0, none⟩)) (hg : w.heap[g]? = some (.cells cs t fr))
    (hu : P.underlying ty = some d) (hd : (match d with | .struct _ | .array _ _ => true | _ => false) = true) (hi : (P.info? ty).map (·.size) = some cs.size) :
    (results fn tmps).run P w = .ok (.tuple #[.agg cs, tmps.getD u undef]) w := by
  have hp' : tmps[p]?.getD undef = .pointer (some ⟨g, 0, none⟩) := by simpa using hp
  simp [results, h, hp', asAddr, run_loadVar_row w g t ty cs fr d hg hu hd hi]
theorem node_size : (Try.prog.info? 33).map (·.size) = some 30 := by kernel_rfl
theorem msg_size : (Try.prog.info? 27).map (·.size) = some 9 := by kernel_rfl
def ndV (n : rf.Node) (ev : Value) : Value := .agg (ndC n ev).toArray
theorem ndC_one {n : rf.Node} {ev : Value} (h : ev.oneCell' = true) : (ndC n ev).toArray.all (·.oneCell') = true := by
  rw [Array.all_eq_true_iff_forall_mem]
  intro u hu
  simp only [List.mem_toArray, ndC, List.mem_cons, List.mem_append, List.mem_map] at hu
  rcases hu with rfl | rfl | rfl | rfl | rfl | rfl | rfl | rfl | rfl | ⟨_, _, rfl⟩ | ⟨_, _, rfl⟩ | ⟨_, _, rfl⟩ <;> first | rfl | exact h
/-- a whole node is stored into a box of that size -/
theorem wpList_store_node {ops : Array Oper} {rest : List Oper} {o : Oper} {a : Act} {w : World} {Q : Exit → Act → World → Prop} (hgd : o.guard = none) (x y : Operand) (ho : o.op = .store 33 x y)
    {g : Nat} {old : List Value} {t : TypeId} {n : rf.Node} {ev : Value} (hg : Blk w g old t) (hl : old.length = 30) (hn : NOk n) (h1 : ev.oneCell' = true) (hx : a.eval x = .pointer (some ⟨g, 0, none⟩)) (hy : a.eval y = .agg (ndC n ev).toArray)
    (h : wpList Try.prog ops Q rest (a.put o.dst undef) (w.setRow g (ndC n ev).toArray)) : wpList Try.prog ops Q (o :: rest) a w :=
  wpList_store_row hgd 33 x y ho g _ hx hy t old.toArray hg (by rw [node_size]; simp [ndC_len hn]) (by simp [hl, ndC_len hn]) (ndC_one h1) h
theorem Blk.row {w : World} {g : Nat} {old : List Value} {t : TypeId} (hg : Blk w g old t) (vs : List Value) : Blk (w.setRow g vs.toArray) g vs t := by
  unfold Blk at hg ⊢
  simp only [World.setRow, Array.getElem?_modify, hg, if_true]
  simp
theorem setRow_apart (w : World) (g : Nat) (cs : Array Value) (k : Nat) (hk : k ≠ g) : (w.setRow g cs).heap[k]? = w.heap[k]? := by
  simp only [World.setRow, Array.getElem?_modify]
  rw [if_neg (fun e => hk e.symm)]
theorem below_setRow {B : Nat} (w : World) (g : Nat) (cs : Array Value) (h : B ≤ g) : Below B w (w.setRow g cs) :=
  ⟨rfl, rfl, rfl, by simp [World.setRow], fun k hk => setRow_apart w g cs k (by omega)⟩
set_option maxHeartbeats 4000000 in
theorem new_any (id many : Int) (T : Nat) (V : Int) (A : Option Addr) (c k : Nat) (ls : List rl.Ent) (w : World) (h1 : 1 ≤ many) (h2 : many ≤ 7) (h3 : 0 ≤ id) (h4 : id < many) :
    Calls Try.prog 7 #[.int .i64 id, .int .i64 many, stV T V (.slice A k c)] w fun e w' => e = .returned (.tuple #[ndV (rf.new id many T V ls) (.slice A k c), .int .i64 0]) ∧ Below w.heap.size w w' := by
  have b1 : decide (many < 1) = false := by simp; omega
  have b2 : decide (7 < many) = false := by simp; omega
  have b3 : decide (id < 0) = false := by simp; omega
  have b4 : decide (many ≤ id) = false := by simp; omega
  have ho : NOk (rf.new id many T V ls) := ⟨rfl, rfl, rfl, by intro x hx; simp [rf.new] at hx; omega, by intro x hx; simp [rf.new] at hx; omega⟩
  unfold stV
  obtain ⟨W1, hW1⟩ : ∃ W, w.alloc (.cells #[.int .u64 (T : Int), .int .i64 V, .slice A k c] 25) = W := ⟨_, rfl⟩
  obtain ⟨W2, hW2⟩ : ∃ W, W1.alloc (.cells (ndC ⟨0, 0, 0, 0, [], 0, 0, 0, 0, List.replicate 7 false, List.replicate 7 0, List.replicate 7 0⟩ (.slice none 0 0)).toArray 33) = W := ⟨_, rfl⟩
  have hb1 : Below w.heap.size w W1 := by rw [← hW1]; exact (Below.refl _ w).alloc (Nat.le_refl _) _
  have hs1 : W1.heap.size = w.heap.size + 1 := by rw [← hW1]; simp
  have hb2 : Below w.heap.size w W2 := by rw [← hW2]; exact hb1.alloc (by omega) _
  have k0 : Blk W2 (w.heap.size + 1) (ndC ⟨0, 0, 0, 0, [], 0, 0, 0, 0, List.replicate 7 false, List.replicate 7 0, List.replicate 7 0⟩ (.slice none 0 0)) 33 := by rw [← hW2, ← hs1]; exact Blk.new _ _ _
  have HK0 := Lib.hid k0
  have hk := k0.row (ndC (rf.new id many T V ls) (.slice A k c))
  have bl1 : Blk W1 w.heap.size [.int .u64 (T : Int), .int .i64 V, .slice A k c] 25 := by rw [← hW1]; exact Blk.new _ _ _
  have bl2 : Blk W2 w.heap.size [.int .u64 (T : Int), .int .i64 V, .slice A k c] 25 := by rw [← hW2]; exact bl1.alloc _
  have c0 := bl2.cell 0 _ rfl
  have c1 := bl2.cell 1 _ rfl
  have c2 := bl2.cell 2 _ rfl
  have hb3 : Below w.heap.size w (W2.setRow (w.heap.size + 1) (ndC (rf.new id many T V ls) (.slice A k c)).toArray) := hb2.trans (below_setRow _ _ _ (by omega))
  have HB3 := Lib.hid hb3
  have HK := Lib.hid hk
  have HW1 := Lib.hid hW1
  have HW2 := Lib.hid hW2
  clear hb1 hb2 hb3 hk k0 bl1 bl2 hW1 hW2 hs1 h1 h2 h3 h4
  go_enter Try.func7, Try.ntmps7
  go_upto_region 1 with fail
  rw [HW1.out]
  rw [show W1.alloc (.cells #[.int .i64 0, .int .i64 0, .int .u64 0, .int .i64 0, .slice none 0 0, .int .i64 0, .int .i64 0, .int .u64 0, .int .i64 0, .bool false, .bool false, .bool false, .bool false, .bool false, .bool false, .bool false, .int .u64 0, .int .u64 0, .int .u64 0, .int .u64 0, .int .u64 0, .int .u64 0, .int .u64 0, .int .u64 0, .int .u64 0, .int .u64 0, .int .u64 0, .int .u64 0, .int .u64 0, .int .u64 0] 33) = W2 from HW2.out]
  go_wp2_with (refine wpList_store_node rfl (.tmp 6) (.tmp 27) rfl (n := rf.new id many T V ls) (ev := .slice A k c) HK0.out rfl ho rfl rfl rfl ?_)
  refine bodyPost_ret (results_cell_one rfl _ _ (w.heap.size + 1) _ _ (0, 0) _ rfl HK.out Try.underlying33 rfl (by rw [node_size]; simp [ndC_len ho])) rfl ?_
  exact ⟨rfl, HB3.out⟩
theorem box_node (w : World) (n : rf.Node) (ev : Value) (j : Nat) (u : Value) (h : (ndC n ev)[j]? = some u) : (w.alloc (.cells (ndC n ev).toArray 33)).cell? ⟨w.heap.size, j, none⟩ = some u := (Blk.new w _ _).cell j u h
theorem wait_any (n : rf.Node) (ev : Value) (w : World) (h0 : 0 ≤ n.id) (h7 : n.id < 7) :
    Calls Try.prog 15 #[ndV n ev] w fun e w' => e = .returned (.int .i64 (10 + 3 * n.id)) ∧ Below w.heap.size w w' := by
  have c0 := box_node w n ev 0 _ rfl
  have hb : Below w.heap.size w (w.alloc (.cells (ndC n ev).toArray 33)) := (Below.refl _ w).alloc (Nat.le_refl _) _
  have HB := Lib.hid hb
  clear hb
  unfold ndV
  go_enter Try.func15, Try.ntmps15
  go_wp2
  go_ret
  exact ⟨rfl, HB.out⟩
/-- all blocks but the box stay -/
def Only (s : Nat) (w w' : World) : Prop := ∀ k, k < w.heap.size → k ≠ s → w'.heap[k]? = w.heap[k]?
theorem Only.below {s : Nat} {w w' : World} (h : Below w.heap.size w w') : Only s w w' := fun k hk _ => h.block k hk
theorem Only.set {s : Nat} {w w' : World} (h : Only s w w') (j : Nat) (x : Value) : Only s w (w'.setCell ⟨s, j, none⟩ x) := fun k hk hs => (Below.heap_setCell _ _ _ k (fun e => hs e)).trans (h k hk hs)
theorem Only.blk {s g : Nat} {w w' : World} {vs : List Value} {t : TypeId} (h : Only s w w') (hb : Blk w g vs t) (hs : g ≠ s) : Blk w' g vs t := (h g hb.lt hs).trans hb
set_option maxHeartbeats 1000000 in
theorem back_any {base s : Nat} {w : World} {n : rf.Node} {ev sv : Value} {ms : List rf.Msg} (t : Nat) (h : St base w s n ev sv ms) :
    Calls Try.prog 24 #[.pointer (some ⟨s, 0, none⟩), .int .u64 (t : Int)] w fun e w' => e = .returned (.tuple #[]) ∧ StTo base w s (rf.back n t) ms w' ∧ Only s w w' := by
  have c2 := h.cell 2 _ (stC_low ev sv 2 _ rfl)
  have c3 := h.cell 3 _ (stC_low ev sv 3 _ rfl)
  have c5 := h.cell 5 _ (stC_low ev sv 5 _ rfl)
  have c6 := h.cell 6 _ (stC_low ev sv 6 _ rfl)
  have f2 := h.free 2
  have f3 := h.free 3
  have f5 := h.free 5
  have f6 := h.free 6
  have h1 := ((Sx.start h).store 5 (.int .i64 0) (n' := { n with role := 0 }) rfl rfl (h.ok.of rfl rfl rfl)).store 6 (.int .i64 (-1)) (n' := { n with role := 0, lead := -1 }) rfl rfl (h.ok.of rfl rfl rfl)
  by_cases ht : n.term < t
  · have h2 := (h1.store 2 (.int .u64 (t : Int)) (n' := { n with role := 0, lead := -1, term := t }) rfl rfl (h.ok.of rfl rfl rfl)).store 3 (.int .i64 (-1)) (n' := { n with role := 0, lead := -1, term := t, vote := -1 }) rfl rfl (h.ok.of rfl rfl rfl)
    have hr : rf.back n t = { n with role := 0, lead := -1, term := t, vote := -1 } := by unfold rf.back; rw [if_pos ht]
    have hi : decide ((n.term : Int) < (t : Int)) = true := by simp; exact ht
    rw [hr]
    have H2 := Lib.hid h2
    clear h h1 h2 hr
    go_enter Try.func24, Try.ntmps24
    go_wp2
    go_end0
    exact ⟨rfl, H2.out.to, ((((Only.below (Below.refl _ w)).set _ _).set _ _).set _ _).set _ _⟩
  · have hr : rf.back n t = { n with role := 0, lead := -1 } := by unfold rf.back; rw [if_neg ht]
    rw [hr]
    have H1 := Lib.hid h1
    clear h h1 hr
    go_enter Try.func24, Try.ntmps24
    go_wp2
    go_end0
    exact ⟨rfl, H1.out.to, ((Only.below (Below.refl _ w)).set _ _).set _ _⟩
end Go.Proofs.Ytkoidphhlfjlhaa
