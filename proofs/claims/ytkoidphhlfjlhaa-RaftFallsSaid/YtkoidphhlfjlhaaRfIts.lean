/- A state turned into the document's own: walked. -/
import Derived.Test.YtkoidphhlfjlhaaRfNewer
import Derived.Deep.RegionLaw
namespace Go.Proofs.Ytkoidphhlfjlhaa
open Go Go.RowKit

/-- block g holds just these -/
def Blk (w : World) (g : Nat) (vs : List Value) (t : TypeId) : Prop := w.heap[g]? = some (.cells vs.toArray t (0, 0))
theorem Blk.cell {w : World} {g : Nat} {vs : List Value} {t : TypeId} (h : Blk w g vs t) (j : Nat) (u : Value) (hj : vs[j]? = some u) : w.cell? ⟨g, j, none⟩ = some u := by
  rw [cell_of_row w g j _ _ (0, 0) h]; simpa using hj
theorem Blk.free {w : World} {g : Nat} {vs : List Value} {t : TypeId} (h : Blk w g vs t) (j : Nat) : w.frozen? ⟨g, j, none⟩ = false := by
  unfold Blk at h; simp [World.frozen?, h]
theorem Blk.lt {w : World} {g : Nat} {vs : List Value} {t : TypeId} (h : Blk w g vs t) : g < w.heap.size := (Array.getElem?_eq_some_iff.1 h).1
theorem Blk.set {w : World} {g : Nat} {vs : List Value} {t : TypeId} (h : Blk w g vs t) (j : Nat) (u : Value) : Blk (w.setCell ⟨g, j, none⟩ u) g (vs.set j u) t := by
  unfold Blk at h ⊢
  simp only [World.setCell, Array.getElem?_modify, h, if_true]
  simp
theorem Blk.other {w : World} {g : Nat} {vs : List Value} {t : TypeId} (h : Blk w g vs t) (a : Addr) (u : Value) (hne : g ≠ a.block) : Blk (w.setCell a u) g vs t := by
  unfold Blk at h ⊢
  rw [← h]
  exact Below.heap_setCell _ _ _ _ hne
theorem Blk.grown {w w' : World} {g : Nat} {vs : List Value} {t : TypeId} {row : Option Nat} (h : Blk w g vs t) (hg : w.grownBy w' row) (hne : some g ≠ row) : Blk w' g vs t := (hg.block g h.lt hne).trans h
theorem Blk.alloc {w : World} {g : Nat} {vs : List Value} {t : TypeId} (h : Blk w g vs t) (o : Obj) : Blk (w.alloc o) g vs t := h.grown (World.grownBy_alloc w o none) (by simp)
theorem Blk.new (w : World) (vs : List Value) (t : TypeId) : Blk (w.alloc (.cells vs.toArray t)) w.heap.size vs t := heap_alloc_new w _
theorem Blk.below {w w' : World} {g : Nat} {vs : List Value} {t : TypeId} (h : Blk w g vs t) (hb : Below w.heap.size w w') : Blk w' g vs t := (hb.block g h.lt).trans h

theorem info_ent : (Try.prog.info? 84).map (fun i => (i.zero, i.size, i.bytes)) = some (some (.agg #[.int .u64 0, .string .empty]), 2, 24) := by kernel_rfl
/-- the cells of entries, one behind the other -/
def entCells (ls : List rl.Ent) : List Value := ls.flatMap fun t => [.int .u64 (t.1 : Int), .string (crcm.mk t.2)]
theorem entCells_append (a b : List rl.Ent) : entCells (a ++ b) = entCells a ++ entCells b := by unfold entCells; rw [List.flatMap_append]
theorem entCells_len (a : List rl.Ent) : (entCells a).length = a.length * 2 := by
  induction a with
  | nil => rfl
  | cons x r ih => rw [show x :: r = [x] ++ r from rfl, entCells_append, List.length_append, ih]; simp [entCells]; omega
theorem entCells_one (a : List rl.Ent) : ∀ u ∈ entCells a, u.oneCell' = true := by
  intro u hu
  obtain ⟨t, _, ht⟩ := List.mem_flatMap.1 hu
  simp at ht
  rcases ht with rfl | rfl <;> rfl
theorem entCells_get (ls : List rl.Ent) (k : Nat) (h : k < ls.length) : (entCells ls)[k * 2]? = some (.int .u64 ((ls.getD k rl.e0).1 : Int)) ∧ (entCells ls)[k * 2 + 1]? = some (.string (crcm.mk (ls.getD k rl.e0).2)) := by
  induction ls generalizing k with
  | nil => simp at h
  | cons x r ih =>
    rw [show x :: r = [x] ++ r from rfl, entCells_append]
    cases k with
    | zero => exact ⟨rfl, rfl⟩
    | succ k =>
      have hl : (entCells [x]).length = 2 := rfl
      have := ih k (by simpa using h)
      rw [List.getElem?_append_right (by rw [hl]; omega), List.getElem?_append_right (by rw [hl]; omega), hl]
      rw [show (k + 1) * 2 - 2 = k * 2 from by omega, show (k + 1) * 2 + 1 - 2 = k * 2 + 1 from by omega]
      exact this
/-- a row of the call's own is a slice of entries -/
theorem ents_of_owns {w : World} {base : Nat} {e : TypeId} {v : Value} {ls : List rl.Ent} (h : w.ownsRow base e 2 v ls.length (entCells ls)) : Ents w v ls := by
  rcases h.2 with ⟨rfl, h0⟩ | ⟨g, cap, cur, rfl, hg, hh, hcap, hmax, hcur, hrest⟩
  · exact ⟨none, 0, by rw [h0], by omega, by unfold maxLen; omega, fun h => by omega⟩
  · refine ⟨_, cap, rfl, by omega, by omega, fun _ => ⟨g, 0, rfl, fun k hk => ?_⟩⟩
    obtain ⟨h0, h1⟩ := entCells_get ls k hk
    have e0 := h.cells (g := g) rfl _ _ h0
    have e1 := h.cells (g := g) rfl _ _ h1
    rw [addr_add] at e0 e1
    exact ⟨e0, by rw [Nat.add_assoc]; exact e1⟩

/-- append to a row of the call's own, as one step of a region that draws -/
theorem step_append_own {P : Program} {ops : Array Oper} {o : Oper} {a : Act} {w : World} {K : Act → World → Prop} {Q : Exit → Act → World → Prop} {E : Prop}
    (hg : o.guard = none) (s x : Operand) (t : TypeId) (hop : o.op = Op.call { callee := Callee.builtin Builtin.append, args := #[s, x], argTypes := #[t, t] })
    (base : Nat) (e : TypeId) (i : TypeInfo) (z : Value) (size bytes : Nat) (h1 : P.underlying t = some (.slice e)) (h2 : P.info? e = some i) (h3 : i.zero = some z) (h4 : i.size = size) (h5 : i.bytes = bytes) (h6 : z.cells.size = size) (h7 : 0 < size)
    (v : Value) (n : Nat) (xs : List Value) (hs : a.eval s = v) (hown : w.ownsRow base e size v n xs)
    (ad : Addr) (m c : Nat) (news : List Value) (hx : a.eval x = .slice (some ad) m c) (hn : news.length = m * size) (hc : ∀ j u, news[j]? = some u → w.cell? (ad.add j) = some u) (h1c : ∀ u ∈ news, u.oneCell' = true)
    (b1 : n + m ≤ maxLen) (b2 : (n + m) * bytes ≤ 140737488355328) (hbase : base ≤ w.heap.size)
    (hK : ∀ v' w', w'.ownsRow base e size v' (n + m) (xs ++ news) → w.grownBy w' v.ownBlock → K (a.put o.dst v') w') :
    if Region.wanted o (yielded ops a.tmps) = true then Oper.wp P o a w K Q else E := by
  have hw : Region.wanted o (yielded ops a.tmps) = true := by simp [Region.wanted, hg]
  rw [if_pos hw]
  obtain ⟨v', w', hrun, r1, r2, _⟩ := run_append_own (P := P) w base t o.type e i z size bytes h1 h2 h3 h4 h5 h6 h7 v n xs hown ad m c news hn hc h1c b1 b2 hbase
  unfold Oper.wp
  simp [execOp, hop, resolve, invoke, builtin, hs, hx, hrun, Result.andThen]
  exact hK v' w' r1 r2
theorem cells_new2 (w : World) (x y : Value) (e : TypeId) : ∀ j u, [x, y][j]? = some u → (w.alloc (.cells #[x, y] e)).cell? ((⟨w.heap.size, 0, none⟩ : Addr).add j) = some u := by
  intro j u hj
  have h := heap_alloc_new w (.cells #[x, y] e)
  rw [addr_add, cell_of_row _ _ _ _ _ _ h]
  simpa using hj

theorem set_grown (w : World) (a : Addr) (v : Value) : w.grownBy (w.setCell a v) (some a.block) := ⟨rfl, rfl, rfl, by simp [World.setCell], fun k _ hne => Below.heap_setCell _ _ _ k (fun e => hne (by rw [e]))⟩
theorem grown_trans {a b c : World} {row : Option Nat} (h : a.grownBy b row) (k : b.grownBy c row) : a.grownBy c row :=
  ⟨k.os.trans h.os, k.tape.trans h.tape, k.output.trans h.output, Nat.le_trans h.size k.size, fun i hi hne => (k.block i (Nat.lt_of_lt_of_le hi h.size) hne).trans (h.block i hi hne)⟩
theorem rstate_size : (Try.prog.info? 42).map (·.size) = some 3 := by kernel_rfl
theorem state_size : (Try.prog.info? 25).map (·.size) = some 3 := by kernel_rfl
theorem owns_slice {w : World} {base : Nat} {e : TypeId} {size n : Nat} {v : Value} {xs : List Value} (h : w.ownsRow base e size v n xs) : ∃ A c, v = .slice A n c := by
  rcases h.2 with ⟨rfl, h0⟩ | ⟨g, cap, cur, rfl, _⟩
  · exact ⟨none, 0, by rw [h0]⟩
  · exact ⟨_, _, rfl⟩

end Go.Proofs.Ytkoidphhlfjlhaa
