/- A state turned into the document's own: walked. -/
import Derived.Test.YtdnoeahhidmkbaaDoorSvAsk
import Derived.Deep.RegionLaw
namespace Go.Proofs.YtdnoeahhidmkbaaDoor.Sv
open Go Go.RowKit
set_option maxRecDepth 100000

/-- block g holds just these -/
def Blk (w : World) (g : Nat) (vs : List Value) (t : TypeId) : Prop := w.heap[g]? = some (.cells vs.toArray t (0, 0))
theorem Blk.cell {w : World} {g : Nat} {vs : List Value} {t : TypeId} (h : Blk w g vs t) (j : Nat) (u : Value) (hj : vs[j]? = some u) : w.cell? ⟨g, j, none⟩ = some u := by
  rw [cell_of_row w g j _ _ (0, 0) h]; simpa using hj
theorem Blk.free {w : World} {g : Nat} {vs : List Value} {t : TypeId} (h : Blk w g vs t) (j : Nat) : w.frozen? ⟨g, j, none⟩ = false := by
  unfold Blk at h; simp [World.frozen?, h]
theorem Blk.lt {w : World} {g : Nat} {vs : List Value} {t : TypeId} (h : Blk w g vs t) : g < w.heap.size := (Array.getElem?_eq_some_iff.1 h).1
theorem Blk.set {w : World} {g : Nat} {vs : List Value} {t : TypeId} (h : Blk w g vs t) (j : Nat) (u : Value) : Blk (w.setCell ⟨g, j, none⟩ u) g (vs.set j u) t := by
  unfold Blk at h ⊢
  simp only [World.setCell, Array.getElem?_modify, h, if_true]
  simp
theorem Blk.other {w : World} {g : Nat} {vs : List Value} {t : TypeId} (h : Blk w g vs t) (a : Addr) (u : Value) (hne : g ≠ a.block) : Blk (w.setCell a u) g vs t := by
  unfold Blk at h ⊢
  rw [← h]
  exact Below.heap_setCell _ _ _ _ hne
theorem Blk.grown {w w' : World} {g : Nat} {vs : List Value} {t : TypeId} {row : Option Nat} (h : Blk w g vs t) (hg : w.grownBy w' row) (hne : some g ≠ row) : Blk w' g vs t := (hg.block g h.lt hne).trans h
theorem Blk.alloc {w : World} {g : Nat} {vs : List Value} {t : TypeId} (h : Blk w g vs t) (o : Obj) : Blk (w.alloc o) g vs t := h.grown (World.grownBy_alloc w o none) (by simp)
theorem Blk.new (w : World) (vs : List Value) (t : TypeId) : Blk (w.alloc (.cells vs.toArray t)) w.heap.size vs t := heap_alloc_new w _
theorem Blk.below {w w' : World} {g : Nat} {vs : List Value} {t : TypeId} (h : Blk w g vs t) (hb : Below w.heap.size w w') : Blk w' g vs t := (hb.block g h.lt).trans h

theorem info_ent : (Tryd.prog.info? 112).map (fun i => (i.zero, i.size, i.bytes)) = some (some (.agg #[.int .u64 0, .string .empty]), 2, 24) := by kernel_rfl
/-- the cells of entries, one behind the other -/
def entCells (ls : List rl.Ent) : List Value := ls.flatMap fun t => [.int .u64 (t.1 : Int), .string (crcm.mk t.2)]
theorem entCells_append (a b : List rl.Ent) : entCells (a ++ b) = entCells a ++ entCells b := by unfold entCells; rw [List.flatMap_append]
theorem entCells_len (a : List rl.Ent) : (entCells a).length = a.length * 2 := by
  induction a with
  | nil => rfl
  | cons x r ih => rw [show x :: r = [x] ++ r from rfl, entCells_append, List.length_append, ih]; simp [entCells]; omega
theorem entCells_one (a : List rl.Ent) : ∀ u ∈ entCells a, u.oneCell' = true := by
  intro u hu
  obtain ⟨t, _, ht⟩ := List.mem_flatMap.1 hu
  simp at ht
  rcases ht with rfl | rfl <;> rfl
theorem entCells_get (ls : List rl.Ent) (k : Nat) (h : k < ls.length) : (entCells ls)[k * 2]? = some (.int .u64 ((ls.getD k rl.e0).1 : Int)) ∧ (entCells ls)[k * 2 + 1]? = some (.string (crcm.mk (ls.getD k rl.e0).2)) := by
  induction ls generalizing k with
  | nil => simp at h
  | cons x r ih =>
    rw [show x :: r = [x] ++ r from rfl, entCells_append]
    cases k with
    | zero => exact ⟨rfl, rfl⟩
    | succ k =>
      have hl : (entCells [x]).length = 2 := rfl
      have := ih k (by simpa using h)
      rw [List.getElem?_append_right (by rw [hl]; omega), List.getElem?_append_right (by rw [hl]; omega), hl]
      rw [show (k + 1) * 2 - 2 = k * 2 from by omega, show (k + 1) * 2 + 1 - 2 = k * 2 + 1 from by omega]
      exact this
/-- a row of the call's own is a slice of entries -/
theorem ents_of_owns {w : World} {base : Nat} {e : TypeId} {v : Value} {ls : List rl.Ent} (h : w.ownsRow base e 2 v ls.length (entCells ls)) : Ents w v ls := by
  rcases h.2 with ⟨rfl, h0⟩ | ⟨g, cap, cur, rfl, hg, hh, hcap, hmax, hcur, hrest⟩
  · exact ⟨none, 0, by rw [h0], by omega, by unfold maxLen; omega, fun h => by omega⟩
  · refine ⟨_, cap, rfl, by omega, by omega, fun _ => ⟨g, 0, rfl, fun k hk => ?_⟩⟩
    obtain ⟨h0, h1⟩ := entCells_get ls k hk
    have e0 := h.cells (g := g) rfl _ _ h0
    have e1 := h.cells (g := g) rfl _ _ h1
    rw [addr_add] at e0 e1
    exact ⟨e0, by rw [Nat.add_assoc]; exact e1⟩

/-- append to a row of the call's own, as one step of a region that draws -/
theorem step_append_own {P : Program} {ops : Array Oper} {o : Oper} {a : Act} {w : World} {K : Act → World → Prop} {Q : Exit → Act → World → Prop} {E : Prop}
    (hg : o.guard = none) (s x : Operand) (t : TypeId) (hop : o.op = Op.call { callee := Callee.builtin Builtin.append, args := #[s, x], argTypes := #[t, t] })
    (base : Nat) (e : TypeId) (i : TypeInfo) (z : Value) (size bytes : Nat) (h1 : P.underlying t = some (.slice e)) (h2 : P.info? e = some i) (h3 : i.zero = some z) (h4 : i.size = size) (h5 : i.bytes = bytes) (h6 : z.cells.size = size) (h7 : 0 < size)
    (v : Value) (n : Nat) (xs : List Value) (hs : a.eval s = v) (hown : w.ownsRow base e size v n xs)
    (ad : Addr) (m c : Nat) (news : List Value) (hx : a.eval x = .slice (some ad) m c) (hn : news.length = m * size) (hc : ∀ j u, news[j]? = some u → w.cell? (ad.add j) = some u) (h1c : ∀ u ∈ news, u.oneCell' = true)
    (b1 : n + m ≤ maxLen) (b2 : (n + m) * bytes ≤ 140737488355328) (hbase : base ≤ w.heap.size)
    (hK : ∀ v' w', w'.ownsRow base e size v' (n + m) (xs ++ news) → w.grownBy w' v.ownBlock → K (a.put o.dst v') w') :
    if Region.wanted o (yielded ops a.tmps) = true then Oper.wp P o a w K Q else E := by
  have hw : Region.wanted o (yielded ops a.tmps) = true := by simp [Region.wanted, hg]
  rw [if_pos hw]
  obtain ⟨v', w', hrun, r1, r2, _⟩ := run_append_own (P := P) w base t o.type e i z size bytes h1 h2 h3 h4 h5 h6 h7 v n xs hown ad m c news hn hc h1c b1 b2 hbase
  unfold Oper.wp
  simp [execOp, hop, resolve, invoke, builtin, hs, hx, hrun, Result.andThen]
  exact hK v' w' r1 r2
theorem cells_new2 (w : World) (x y : Value) (e : TypeId) : ∀ j u, [x, y][j]? = some u → (w.alloc (.cells #[x, y] e)).cell? ((⟨w.heap.size, 0, none⟩ : Addr).add j) = some u := by
  intro j u hj
  have h := heap_alloc_new w (.cells #[x, y] e)
  rw [addr_add, cell_of_row _ _ _ _ _ _ h]
  simpa using hj

theorem set_grown (w : World) (a : Addr) (v : Value) : w.grownBy (w.setCell a v) (some a.block) := ⟨rfl, rfl, rfl, by simp [World.setCell], fun k _ hne => Below.heap_setCell _ _ _ k (fun e => hne (by rw [e]))⟩
theorem grown_trans {a b c : World} {row : Option Nat} (h : a.grownBy b row) (k : b.grownBy c row) : a.grownBy c row :=
  ⟨k.os.trans h.os, k.tape.trans h.tape, k.output.trans h.output, Nat.le_trans h.size k.size, fun i hi hne => (k.block i (Nat.lt_of_lt_of_le hi h.size) hne).trans (h.block i hi hne)⟩
theorem rstate_size : (Tryd.prog.info? 71).map (·.size) = some 3 := by kernel_rfl
theorem state_size : (Tryd.prog.info? 61).map (·.size) = some 3 := by kernel_rfl
theorem owns_slice {w : World} {base : Nat} {e : TypeId} {size n : Nat} {v : Value} {xs : List Value} (h : w.ownsRow base e size v n xs) : ∃ A c, v = .slice A n c := by
  rcases h.2 with ⟨rfl, h0⟩ | ⟨g, cap, cur, rfl, _⟩
  · exact ⟨none, 0, by rw [h0]⟩
  · exact ⟨_, _, rfl⟩

set_option maxHeartbeats 2000000 in
theorem its_any (T : Nat) (V : Int) (v : Value) (ls : List rl.Ent) (w : World) (hv : Ents w v ls) (hl : ls.length ≤ 10000) :
    Calls Tryd.prog 34 #[stV T V v] w fun e w' => ∃ u, e = .returned (stV T V u) ∧ Ents w' u ls ∧ Below w.heap.size w w' := by
  obtain ⟨i0, hi, hz0, hz1, hz2⟩ := info_parts info_ent
  obtain ⟨A, c, rfl, hc, hcm, h0⟩ := hv
  obtain ⟨n, hn⟩ : ∃ n, ls.length = n := ⟨_, rfl⟩
  rw [hn] at hl h0 hc ⊢
  have Hn := Lib.hid hn
  have H0 := Lib.hid h0
  clear hn h0
  unfold stV
  go_enter Tryd.func34, Tryd.ntmps34
  go_wp2
  have hw0 := Blk.new w [.int .u64 (T : Int), .int .i64 V, .slice A n c] 61
  have hw1 := Blk.new (w.alloc (.cells #[.int .u64 (T : Int), .int .i64 V, .slice A n c] 61)) [.int .u64 0, .int .i64 0, .slice none 0 0] 71
  have hw2 := Blk.new ((w.alloc (.cells #[.int .u64 (T : Int), .int .i64 V, .slice A n c] 61)).alloc (.cells #[.int .u64 0, .int .i64 0, .slice none 0 0] 71)) [.int .u64 (T : Int), .int .i64 V, .slice none 0 0] 71
  have hb0 : Below w.heap.size w (((w.alloc (.cells #[.int .u64 (T : Int), .int .i64 V, .slice A n c] 61)).alloc (.cells #[.int .u64 0, .int .i64 0, .slice none 0 0] 71)).alloc (.cells #[.int .u64 (T : Int), .int .i64 V, .slice none 0 0] 71)) :=
    (((Below.refl _ w).alloc (Nat.le_refl _) _).alloc (by simp) _).alloc (by simp; omega) _
  have hw0' := (hw0.alloc (.cells #[.int .u64 0, .int .i64 0, .slice none 0 0] 71)).alloc (.cells #[.int .u64 (T : Int), .int .i64 V, .slice none 0 0] 71)
  have hw1' := hw1.alloc (.cells #[.int .u64 (T : Int), .int .i64 V, .slice none 0 0] 71)
  simp only [World.size_alloc] at hw1' hw2
  have HW0 := Lib.hid hw0'
  have HW1 := Lib.hid hw1'
  have HW2 := Lib.hid hw2
  have HB0 := Lib.hid hb0
  clear hw0 hw1 hw2 hb0 hw0' hw1'
  obtain ⟨B, hB⟩ : ∃ B, w.heap.size = B := ⟨_, rfl⟩
  have HBe := Lib.hid hB
  rw [hB] at HW0 HW1 HW2 HB0 ⊢
  clear hB
  go_loopw [4] (fun i wr => ∃ (k : Nat) (u : Value), k ≤ n ∧ i = .int .i64 k ∧ Blk wr B [.int .u64 (T : Int), .int .i64 V, .slice A n c] 61 ∧ Blk wr (B + 1) [.int .u64 0, .int .i64 0, .slice none 0 0] 71 ∧
    Blk wr (B + 1 + 1) [.int .u64 (T : Int), .int .i64 V, u] 71 ∧ wr.ownsRow (B + 1 + 1 + 1) 112 2 u k (entCells (ls.take k)) ∧ Below B w wr) (fun i _ => n - (intOf i).toNat)
  case atStart => exact ⟨0, _, Nat.zero_le _, rfl, HW0.out, HW1.out, HW2.out, World.ownsRow_nil _ _ _ _, HB0.out⟩
  case round =>
    obtain ⟨k, u, hk, rfl, hX, hR, hO, hown, hbel⟩ := hrel
    have x2 := hX.cell 2 _ rfl
    have hsz := hO.lt
    by_cases hlt : k < n
    · obtain ⟨b, o, rfl, hA⟩ := H0.out (by omega)
      obtain ⟨c0, c1⟩ := hA k (by rw [Hn.out]; exact hlt)
      rw [← HBe.out] at hbel
      have c0' := cell_later hbel c0
      have c1' := cell_later hbel c1
      have o2 := hO.cell 2 _ rfl
      have of := hO.free 2
      have hnext : entCells (ls.take k) ++ entCells [ls.getD k rl.e0] = entCells (ls.take (k + 1)) := by rw [take_snoc (by rw [Hn.out]; exact hlt), entCells_append]
      obtain ⟨t, ht⟩ : ∃ t, ls.getD k rl.e0 = t := ⟨_, rfl⟩
      rw [ht] at c0' c1' hnext
      have hkn : (k : Int) < (n : Int) := by omega
      obtain ⟨xs, hxs⟩ : ∃ xs, entCells (ls.take k) = xs := ⟨_, rfl⟩
      rw [hxs] at hown hnext
      have HN := Lib.hid hnext
      have HX := Lib.hid (show Blk wr.drew B _ _ from hX)
      have HR := Lib.hid (show Blk wr.drew (B + 1) _ _ from hR)
      have HO := Lib.hid (show Blk wr.drew (B + 1 + 1) _ _ from hO)
      have HBE := Lib.hid hbel
      clear hA c0 c1 ht hxs hnext hX hR hO hbel
      go_wp2_with fail
      have hne : some (B + 1 + 1) ≠ u.ownBlock := fun e => by have := (hown.lt _ e.symm).1; omega
      have hne0 : some B ≠ u.ownBlock := fun e => by have := (hown.lt _ e.symm).1; omega
      have hne1 : some (B + 1) ≠ u.ownBlock := fun e => by have := (hown.lt _ e.symm).1; omega
      have hrow : ∀ j, u.ownBlock = some j → B + 1 + 1 + 1 ≤ j := fun j hj => (hown.lt j hj).1
      go_region_law (refine step_append_own rfl (.tmp 18) (.tmp 24) 69 rfl (B + 1 + 1 + 1) 112 i0 _ 2 24 Tryd.underlying69 hi hz0 hz1 hz2 rfl (by decide) u k xs (by simp [Act.eval]) ?_ ⟨wr.heap.size, 0, none⟩ 1 1 (entCells [t]) (by simp [Act.eval]) rfl ?_ (entCells_one _) ?_ ?_ ?_ ?_; exact hown.alloc _; exact cells_new2 _ _ _ _; unfold maxLen; omega; omega; simp; omega; intro v' w3 hown' hgrow'; obtain ⟨A', c', rfl⟩ := owns_slice hown'; have hO3 := (HO.out.alloc _).grown hgrow' hne; have of3 := hO3.free 2; have o23 := hO3.cell 2 _ rfl)
      all_goals
        have hX3 := ((HX.out.alloc _).grown hgrow' hne0).other ⟨B + 1 + 1, 2, none⟩ (.slice A' (k + 1) c') (show B ≠ B + 1 + 1 by omega)
        have hR3 := ((HR.out.alloc _).grown hgrow' hne1).other ⟨B + 1 + 1, 2, none⟩ (.slice A' (k + 1) c') (show B + 1 ≠ B + 1 + 1 by omega)
        have hO4 := hO3.set 2 (.slice A' (k + 1) c')
        have hown4 := hown'.kept (set_grown w3 ⟨B + 1 + 1, 2, none⟩ (.slice A' (k + 1) c')) (by
          cases ho : (Value.slice A' (k + 1) c').ownBlock with
          | none => exact .inl rfl
          | some j => exact .inr (by have := (hown'.lt j ho).1; simp; omega))
        have hb3 : Below B w w3 := by
          have h1 : Below B w wr.drew := by rw [← HBe.out]; exact below_drewN HBE.out 1
          exact (h1.alloc (show B ≤ wr.heap.size by omega) _).grown hgrow' (by simp; omega) (fun j hj => by have := hrow j hj; omega)
        have hb4 := hb3.grown (set_grown w3 ⟨B + 1 + 1, 2, none⟩ (.slice A' (k + 1) c')) (by have := hb3.size; rw [HBe.out] at this; exact this) (fun j hj => by cases hj; show B ≤ B + 1 + 1; omega)
        rw [HN.out] at hown4
        go_wp2
        go_roundw
        case rel => exact ⟨k + 1, _, by omega, by go_num, hX3, hR3, hO4, hown4, hb4⟩
        case measure => simp [intOf]; omega
    · obtain rfl : k = n := by omega
      obtain ⟨A', c', rfl⟩ := owns_slice hown
      have o0 := hO.cell 0 _ rfl
      have o1 := hO.cell 1 _ rfl
      have o2 := hO.cell 2 _ rfl
      have r0 := hR.free 0
      have r1 := hR.free 1
      have r2 := hR.free 2
      have r0c := hR.cell 0 _ rfl
      have r1c := hR.cell 1 _ rfl
      have r2c := hR.cell 2 _ rfl
      have htk : ls.take k = ls := List.take_of_length_le (by rw [Hn.out]; exact Nat.le_refl _)
      rw [htk] at hown
      have HE := Lib.hid hown
      have HBL := Lib.hid hbel
      have hR2 := ((hR.set 0 (.int .u64 (T : Int))).set 1 (.int .i64 V)).set 2 (.slice A' k c')
      have HR2 := Lib.hid hR2
      clear hX hO hR hown hbel htk HW0 HW1 HW2 HB0 hR2
      go_wp2
      refine bodyPost_ret (results_cell_row rfl _ _ (B + 1) _ _ (0, 0) _ rfl HR2.out Tryd.underlying71 rfl rstate_size) rfl ?_
      have g1 := set_grown wr ⟨B + 1, 0, none⟩ (.int .u64 (T : Int))
      have g2 := set_grown (wr.setCell ⟨B + 1, 0, none⟩ (.int .u64 (T : Int))) ⟨B + 1, 1, none⟩ (.int .i64 V)
      have g3 := set_grown ((wr.setCell ⟨B + 1, 0, none⟩ (.int .u64 (T : Int))).setCell ⟨B + 1, 1, none⟩ (.int .i64 V)) ⟨B + 1, 2, none⟩ (.slice A' k c')
      have g := grown_trans (grown_trans g1 g2) g3
      have hown5 := HE.out.kept g (by
        cases ho : (Value.slice A' k c').ownBlock with
        | none => exact .inl rfl
        | some j => exact .inr (by have := (HE.out.lt j ho).1; simp; omega))
      refine ⟨_, rfl, ents_of_owns (by rw [Hn.out]; exact hown5), ?_⟩
      rw [HBe.out]
      exact HBL.out.grown g (by have := HBL.out.size; rw [HBe.out] at this; exact this) (fun j hj => by cases hj; show B ≤ B + 1; omega)
end Go.Proofs.YtdnoeahhidmkbaaDoor.Sv
