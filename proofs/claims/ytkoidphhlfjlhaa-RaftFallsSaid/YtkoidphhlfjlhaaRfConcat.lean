/- append of a slice that may be nil; slices.Grow of nothing; slices.Concat of two: walked. -/
import Derived.Test.YtkoidphhlfjlhaaRfSame
import Derived.Lib.AppendZerosOnto
import Derived.Lib.SliceRun
import Derived.Lib.Walk
namespace Go.Proofs.Ytkoidphhlfjlhaa
open Go Go.RowKit

section
variable {P : Program} {w : World} {base : Nat} {e : TypeId} {size bytes : Nat} {v : Value} {n : Nat} {xs : List Value}
theorem run_append_zero (w : World) (t ty e : TypeId) (i : TypeInfo) (ht : P.underlying t = some (.slice e)) (hi : P.info? e = some i) (B A : Option Addr) (n cap c : Nat) (hB : B = none → n = 0 ∧ cap = 0) (hn : n ≤ cap) (hcap : n ≤ maxLen) :
    (Builtin.append_ #[t, t] ty #[.slice B n cap, .slice A 0 c]).run P w = .ok (.slice B n cap) w := by
  unfold maxLen at hcap
  have h63 : ¬ (9223372036854775807 : Int) < (n : Int) := by omega
  cases B with
  | none =>
    obtain ⟨rfl, rfl⟩ := hB rfl
    cases A <;> simp [Builtin.append_, run_underlying ht, sizeOf, typeInfo, hi, Builtin.lenOf, Builtin.firstCells, loadCells, loadCellsFrom, Result.andThen]
  | some b =>
    cases A <;> simp [Builtin.append_, run_underlying ht, sizeOf, typeInfo, hi, Builtin.lenOf, Builtin.firstCells, loadCells, loadCellsFrom, hn, storeCells, Result.andThen]
/-- append of entries, the slice that is appended nil or not -/
theorem run_append_opt (w : World) (base : Nat) (t ty e : TypeId) (i : TypeInfo) (z : Value) (size bytes : Nat) (ht : P.underlying t = some (.slice e)) (hi : P.info? e = some i) (hz : i.zero = some z)
    (hsize : i.size = size) (hby : i.bytes = bytes) (hzs : z.cells.size = size) (hsz : 0 < size)
    (v : Value) (n : Nat) (xs : List Value) (hown : w.ownsRow base e size v n xs)
    (A : Option Addr) (m c : Nat) (news : List Value) (hl : news.length = m * size) (hA : 0 < m → ∃ ad, A = some ad ∧ ∀ j u, news[j]? = some u → w.cell? (ad.add j) = some u) (h1 : ∀ u ∈ news, u.oneCell' = true)
    (h63 : n + m ≤ maxLen) (hbytes : (n + m) * bytes ≤ 140737488355328) (hbase : base ≤ w.heap.size) :
    ∃ v' w', (Builtin.append_ #[t, t] ty #[v, .slice A m c]).run P w = .ok v' w' ∧ w'.ownsRow base e size v' (n + m) (xs ++ news) ∧ w.grownBy w' v.ownBlock := by
  by_cases hm : m = 0
  · subst hm
    obtain rfl : news = [] := List.eq_nil_of_length_eq_zero (by omega)
    refine ⟨v, w, ?_, by simpa using hown, ⟨rfl, rfl, rfl, Nat.le_refl _, fun _ _ _ => rfl⟩⟩
    rcases hown.2 with ⟨rfl, rfl⟩ | ⟨g, cap, cur, rfl, _, _, hnc, hcm, _, _⟩
    · exact run_append_zero w t ty e i ht hi none A 0 0 c (fun _ => ⟨rfl, rfl⟩) (Nat.le_refl _) (Nat.zero_le _)
    · exact run_append_zero w t ty e i ht hi _ A n cap c (fun h => by cases h) hnc (by omega)
  · obtain ⟨ad, rfl, hc⟩ := hA (by omega)
    obtain ⟨v', w', h1, h2, h3, _⟩ := run_append_own (P := P) w base t ty e i z size bytes ht hi hz hsize hby hzs hsz v n xs hown ad m c news hl hc h1 h63 hbytes hbase
    exact ⟨v', w', h1, h2, h3⟩
theorem wpList_append_opt {ops : Array Oper} {rest : List Oper} {o : Oper} {a : Act} {Q : Exit → Act → World → Prop} (w : World) (hgd : o.guard = none) (s x : Operand) (t : TypeId)
    (ho : o.op = .call { callee := .builtin .append, args := #[s, x], argTypes := #[t, t] })
    (base : Nat) (e : TypeId) (i : TypeInfo) (z : Value) (size bytes : Nat) (ht : P.underlying t = some (.slice e)) (hi : P.info? e = some i) (hz : i.zero = some z)
    (hsize : i.size = size) (hby : i.bytes = bytes) (hzs : z.cells.size = size) (hsz : 0 < size)
    (v : Value) (n : Nat) (xs : List Value) (hs : a.eval s = v) (hown : w.ownsRow base e size v n xs)
    (A : Option Addr) (m c : Nat) (news : List Value) (hx : a.eval x = .slice A m c) (hl : news.length = m * size) (hA : 0 < m → ∃ ad, A = some ad ∧ ∀ j u, news[j]? = some u → w.cell? (ad.add j) = some u) (h1 : ∀ u ∈ news, u.oneCell' = true)
    (h63 : n + m ≤ maxLen) (hbytes : (n + m) * bytes ≤ 140737488355328) (hbase : base ≤ w.heap.size)
    (h : ∀ v' w', w'.ownsRow base e size v' (n + m) (xs ++ news) → w.grownBy w' v.ownBlock → wpList P ops Q rest (a.put o.dst v') w') : wpList P ops Q (o :: rest) a w := by
  refine wpList_plain hgd fun K hK => ?_
  obtain ⟨v', w', hrun, r1, r2⟩ := run_append_opt (P := P) w base t o.type e i z size bytes ht hi hz hsize hby hzs hsz v n xs hown A m c news hl hA h1 h63 hbytes hbase
  unfold Oper.wp
  simp [execOp, ho, resolve, invoke, builtin, hs, hx, hrun, Result.andThen]
  exact hK _ _ (h v' w' r1 r2)
theorem step_append_opt {ops : Array Oper} {o : Oper} {a : Act} {K : Act → World → Prop} {Q : Exit → Act → World → Prop} {E : Prop}
    (w : World) (hg : o.guard = none) (s x : Operand) (t : TypeId) (hop : o.op = Op.call { callee := Callee.builtin Builtin.append, args := #[s, x], argTypes := #[t, t] })
    (base : Nat) (e : TypeId) (i : TypeInfo) (z : Value) (size bytes : Nat) (ht : P.underlying t = some (.slice e)) (hi : P.info? e = some i) (hz : i.zero = some z) (hsize : i.size = size) (hby : i.bytes = bytes) (hzs : z.cells.size = size) (hsz : 0 < size)
    (v : Value) (n : Nat) (xs : List Value) (hs : a.eval s = v) (hown : w.ownsRow base e size v n xs)
    (A : Option Addr) (m c : Nat) (news : List Value) (hx : a.eval x = .slice A m c) (hl : news.length = m * size) (hA : 0 < m → ∃ ad, A = some ad ∧ ∀ j u, news[j]? = some u → w.cell? (ad.add j) = some u) (h1 : ∀ u ∈ news, u.oneCell' = true)
    (h63 : n + m ≤ maxLen) (hbytes : (n + m) * bytes ≤ 140737488355328) (hbase : base ≤ w.heap.size)
    (hK : ∀ v' w', w'.ownsRow base e size v' (n + m) (xs ++ news) → w.grownBy w' v.ownBlock → K (a.put o.dst v') w') :
    if Region.wanted o (yielded ops a.tmps) = true then Oper.wp P o a w K Q else E := by
  have hw : Region.wanted o (yielded ops a.tmps) = true := by simp [Region.wanted, hg]
  rw [if_pos hw]
  obtain ⟨v', w', hrun, r1, r2⟩ := run_append_opt (P := P) w base t o.type e i z size bytes ht hi hz hsize hby hzs hsz v n xs hown A m c news hl hA h1 h63 hbytes hbase
  unfold Oper.wp
  simp [execOp, hop, resolve, invoke, builtin, hs, hx, hrun, Result.andThen]
  exact hK v' w' r1 r2
end

/-- entries that lie in memory, as the cells that an append takes -/
theorem Ents.cells {w : World} {A : Option Addr} {n c : Nat} {ls : List rl.Ent} (h : Ents w (.slice A n c) ls) : (entCells ls).length = n * 2 ∧ (0 < n → ∃ ad, A = some ad ∧ ∀ j u, (entCells ls)[j]? = some u → w.cell? (ad.add j) = some u) := by
  obtain ⟨A', c', e, _, _, h0⟩ := h
  obtain ⟨rfl, rfl, rfl⟩ : A = A' ∧ n = ls.length ∧ c = c' := by injection e with e1 e2 e3; exact ⟨e1, e2, e3⟩
  refine ⟨entCells_len ls, fun hn => ?_⟩
  obtain ⟨b, o, rfl, hA⟩ := h0 hn
  refine ⟨_, rfl, fun j u hj => ?_⟩
  have hjl : j < ls.length * 2 := by rw [← entCells_len]; exact (List.getElem?_eq_some_iff.1 hj).1
  obtain ⟨c0, c1⟩ := hA (j / 2) (by omega)
  obtain ⟨g0, g1⟩ := entCells_get ls (j / 2) (by omega)
  rw [addr_add]
  rcases Nat.mod_two_eq_zero_or_one j with e | e
  · have : j / 2 * 2 = j := by omega
    rw [this] at c0 g0
    rw [c0, ← g0, hj]
  · have : j / 2 * 2 + 1 = j := by omega
    rw [Nat.add_assoc, this] at c1
    rw [this] at g1
    rw [c1, ← g1, hj]

theorem info_lent : (Try.prog.info? 54).map (fun i => (i.zero, i.size, i.bytes)) = some (some (.agg #[.int .u64 0, .string .empty]), 2, 24) := by kernel_rfl
set_option maxHeartbeats 2000000 in
theorem grow_nil (n : Nat) (w : World) (hn : n ≤ 1000000) :
    Calls Try.prog 48 #[.slice none 0 0, .int .i64 (n : Int)] w fun e w' => ∃ v, e = .returned v ∧ w'.ownsRow w.heap.size 54 2 v 0 [] ∧ Below w.heap.size w w' := by
  obtain ⟨i0, hi, hz0, hz1, hz2⟩ := info_parts info_lent
  by_cases h0 : n = 0
  · subst h0
    go_enter Try.func48, Try.ntmps48
    go_wp2
    go_ret
    exact ⟨_, rfl, World.ownsRow_nil _ _ _ _, Below.refl _ _⟩
  · have hrz : ∀ ty, (Builtin.append_ #[23, 3] ty #[.slice none 0 0, .int .i64 (n : Int)]).run Try.prog w = .ok _ _ := fun ty =>
      Lib.run_append_grow_zeros w 23 3 ty 54 i0 _ .i64 .i64 Try.underlying23 Try.underlying3 hi hz0 none 0 0 [] (run_firstCells_none w.drew i0.size 0 0 0) n (by omega) (by omega) (by omega) (by omega)
        (by rw [hz2]; omega) (growslice_fits (by omega) (by rw [hz2]; omega))
    have hge := grownCap_ge w (0 + n) 0 54
    have hle := grownCap_le_maxLen w (0 + n) 0 54 (by unfold maxLen; omega)
    obtain ⟨G, hG⟩ : ∃ G, grownCap w (0 + n) 0 54 = G := ⟨_, rfl⟩
    rw [hG, Nat.zero_add] at hrz hge
    rw [hG] at hle
    have hw2 : Below w.heap.size w (w.drew.alloc (.cells (#[] ++ Builtin.zeroCells (Value.agg #[.int .u64 0, .string .empty]).cells n ++ Builtin.zeroCells (Value.agg #[.int .u64 0, .string .empty]).cells (G - n)) 54)) :=
      (below_drewN (Below.refl _ w) 1).alloc (Nat.le_refl _) _
    have hb2 := heap_alloc_new w.drew (.cells (#[] ++ Builtin.zeroCells (Value.agg #[.int .u64 0, .string .empty]).cells n ++ Builtin.zeroCells (Value.agg #[.int .u64 0, .string .empty]).cells (G - n)) 54)
    have hsz : (#[] ++ Builtin.zeroCells (Value.agg #[.int .u64 0, .string .empty]).cells n ++ Builtin.zeroCells (Value.agg #[.int .u64 0, .string .empty]).cells (G - n)).size = G * 2 := by
      rw [Array.size_append, Array.size_append, size_zeroCells, size_zeroCells]
      simp [Value.cells]
      omega
    obtain ⟨W, hW⟩ : ∃ W, (w.drew.alloc (.cells (#[] ++ Builtin.zeroCells (Value.agg #[.int .u64 0, .string .empty]).cells n ++ Builtin.zeroCells (Value.agg #[.int .u64 0, .string .empty]).cells (G - n)) 54)) = W := ⟨_, rfl⟩
    rw [hW] at hw2 hb2
    have hrz2 : ∀ ty, (Builtin.append_ #[23, 3] ty #[.slice none 0 0, .int .i64 (n : Int)]).run Try.prog w = .ok (.slice (some ⟨w.heap.size, 0, none⟩) n G) W := fun ty => by rw [hrz ty, hW]
    have Hw2 := Lib.hid hw2
    have Hb2 := Lib.hid hb2
    have Hsz := Lib.hid hsz
    unfold maxLen at hle
    clear hrz hW hw2 hb2 hsz hG
    go_enter Try.func48, Try.ntmps48
    go_wp2_with (at_builtin; refine Lib.wpList_append_run _ rfl _ _ _ _ rfl _ _ rfl rfl _ _ (hrz2 _) ?_)
    go_ret
    refine ⟨_, rfl, ⟨rfl, .inr ⟨w.heap.size, G, _, rfl, Nat.le_refl _, Hb2.out, Nat.zero_le _, hle, Hsz.out, by simp⟩⟩, Hw2.out⟩

/-- a slice of entries lies in a row of entries -/
def RowT (w : World) (u : Value) : Prop := ∀ b o n c, u = .slice (some ⟨b, o, none⟩) n c → ∃ cur, w.heap[b]? = some (.cells cur 54 (0, 0))
theorem RowT.of_owns {w : World} {base n : Nat} {u : Value} {xs : List Value} (h : w.ownsRow base 54 2 u n xs) : RowT w u := fun b o n c e => by
  subst e
  rcases h.2 with ⟨e1, _⟩ | ⟨g, cap, cur, e1, _, hh, _⟩
  · cases e1
  · injection e1 with e1 _ _
    injection e1 with e1
    injection e1 with e1 _ _
    subst e1
    exact ⟨cur, hh⟩
theorem RowT.setCell {w : World} {u : Value} (h : RowT w u) (a : Addr) (x : Value) : RowT (w.setCell a x) u := fun b o n c e => by
  obtain ⟨cur, hc⟩ := h b o n c e
  by_cases hb : b = a.block
  · subst hb
    simp only [World.setCell, Array.getElem?_modify, if_true, hc, Option.map_some]
    exact ⟨_, rfl⟩
  · exact ⟨cur, (Below.heap_setCell _ _ _ b hb).trans hc⟩
theorem RowT.below {w w' : World} {u : Value} (h : RowT w u) (hb : Below w.heap.size w w') : RowT w' u := fun b o n c e => by
  obtain ⟨cur, hc⟩ := h b o n c e
  exact ⟨cur, (hb.block b (Array.getElem?_eq_some_iff.1 hc).1).trans hc⟩
set_option maxHeartbeats 4000000 in
theorem concat_two (la lb : List rl.Ent) (A1 A2 : Option Addr) (n1 c1 n2 c2 g : Nat) (w : World) (h0 : w.cell? ⟨g, 0, none⟩ = some (.slice A1 n1 c1)) (h1 : w.cell? ⟨g, 1, none⟩ = some (.slice A2 n2 c2))
    (hp1 : Ents w (.slice A1 n1 c1) la) (hp2 : Ents w (.slice A2 n2 c2) lb) (hl1 : la.length = n1) (hl2 : lb.length = n2) (hn1 : n1 ≤ 100000) (hn2 : n2 ≤ 100000) :
    Calls Try.prog 44 #[.slice (some ⟨g, 0, none⟩) 2 2] w fun e w' => ∃ v, e = .returned v ∧ (Ents w' v (la ++ lb) ∧ RowT w' v) ∧ Below w.heap.size w w' := by
  obtain ⟨i0, hi, hz0, hz1, hz2⟩ := info_parts info_lent
  obtain ⟨m, hm⟩ : ∃ m, n1 + n2 = m := ⟨_, rfl⟩
  have hmi : (n1 : Int) + (n2 : Int) = (m : Int) := by omega
  have hgn := grow_nil m w (by omega)
  have HGN := Lib.hid hgn
  have HP1 := Lib.hid hp1
  have HP2 := Lib.hid hp2
  have Hl1 := Lib.hid hl1
  have Hl2 := Lib.hid hl2
  have hm2 : n1 + n2 ≤ 200000 := by omega
  have Hm := Lib.hid hm
  clear hgn hp1 hp2 hl1 hl2 hm
  go_enter Try.func44, Try.ntmps44
  go_wp2
  refine wp_loop_rounds 3 ?_
  rw [rounds_succ]
  go_wp2
  rw [rounds_succ]
  go_wp2
  rw [rounds_succ]
  go_wp2_with fail
  refine HGN.out.mono ?_
  rintro e w1 ⟨v1, rfl, hown1, hb1⟩
  have x0 := cell_later hb1 h0
  have x1 := cell_later hb1 h1
  have hq1 := HP1.out.below hb1
  have HB1 := Lib.hid hb1
  have HQ1 := Lib.hid hq1
  clear hb1 hq1
  go_wp2_with fail
  refine wp_loop_rounds 3 ?_
  rw [rounds_succ]
  go_wp2_with (at_builtin; refine wpList_append_opt _ rfl _ _ 23 rfl w.heap.size 54 i0 _ 2 24 Try.underlying23 hi hz0 hz1 hz2 rfl (by decide) v1 0 [] rfl hown1 A1 n1 c1 (entCells la) rfl ?c1 ?c2 ?c3 ?c4 ?c5 ?c6 ?_)
  case c1 => exact HQ1.out.cells.1
  case c2 => exact HQ1.out.cells.2
  case c3 => exact entCells_one _
  case c4 => unfold maxLen; omega
  case c5 => omega
  case c6 => exact HB1.out.size
  intro v2 w2 hown2 hgrow2
  have hb2 : Below w.heap.size w w2 := HB1.out.grown hgrow2 HB1.out.size (fun j hj => (hown1.lt j hj).1)
  have y0 := cell_later hb2 h0
  have y1 := cell_later hb2 h1
  have hq2 := HP2.out.below hb2
  have HB2 := Lib.hid hb2
  have HQ2 := Lib.hid hq2
  clear hb2 hq2 hgrow2 hown1
  go_wp2
  rw [rounds_succ]
  go_wp2_with (at_builtin; refine wpList_append_opt _ rfl _ _ 23 rfl w.heap.size 54 i0 _ 2 24 Try.underlying23 hi hz0 hz1 hz2 rfl (by decide) v2 _ _ rfl hown2 A2 n2 c2 (entCells lb) rfl ?c1 ?c2 ?c3 ?c4 ?c5 ?c6 ?_)
  case c1 => exact HQ2.out.cells.1
  case c2 => exact HQ2.out.cells.2
  case c3 => exact entCells_one _
  case c4 => unfold maxLen; omega
  case c5 => omega
  case c6 => exact HB2.out.size
  intro v3 w3 hown3 hgrow3
  have hb3 : Below w.heap.size w w3 := HB2.out.grown hgrow3 HB2.out.size (fun j hj => (hown2.lt j hj).1)
  have HB3 := Lib.hid hb3
  clear hb3 hgrow3 hown2
  go_wp2
  rw [rounds_succ]
  go_wp2
  go_ret
  have hown4 : w3.ownsRow w.heap.size 54 2 v3 (la ++ lb).length (entCells (la ++ lb)) := by
    rw [entCells_append, List.length_append, Hl1.out, Hl2.out]
    simpa using hown3
  exact ⟨v3, rfl, ⟨ents_of_owns hown4, RowT.of_owns hown4⟩, HB3.out⟩
end Go.Proofs.Ytkoidphhlfjlhaa
