/- KfConcat, KfBeside, KfMatch: one behind the other. -/
import Derived.Lib.AppendZerosOnto
import Derived.Lib.SliceRun
import Derived.Lib.Walk
import Derived.Test.YtmcibggjolckoaaGreatDoorG12
import Derived.RangeFuncBox
import Derived.RangeFuncNested
import Derived.RangeFuncBound
import Derived.RangeFuncCalls
import Derived.RangeFuncLeaves
import Derived.Shelf.RegionOpen
import Derived.Stop.RegionWithIn
import Derived.WalkKit
import Derived.OwnWalkIn
import Derived.TacticsInMore
import Derived.LoopNIn
import Derived.LoopIn
import Derived.Lib.MinMax
import Derived.Maps.AppendAt
namespace Go.Proofs.YtmcibggjolckoaaGreatDoor
open Go Go.RowKit
set_option maxRecDepth 100000

section
variable {P : Program} {w : World} {base : Nat} {e : TypeId} {size bytes : Nat} {v : Value} {n : Nat} {xs : List Value}
theorem run_append_zero (w : World) (t ty e : TypeId) (i : TypeInfo) (ht : P.underlying t = some (.slice e)) (hi : P.info? e = some i) (B A : Option Addr) (n cap c : Nat) (hB : B = none → n = 0 ∧ cap = 0) (hn : n ≤ cap) (hcap : n ≤ maxLen) :
    (Builtin.append_ #[t, t] ty #[.slice B n cap, .slice A 0 c]).run P w = .ok (.slice B n cap) w := by
  unfold maxLen at hcap
  have h63 : ¬ (9223372036854775807 : Int) < (n : Int) := by omega
  cases B with
  | none =>
    obtain ⟨rfl, rfl⟩ := hB rfl
    cases A <;> simp [Builtin.append_, run_underlying ht, sizeOf, typeInfo, hi, Builtin.lenOf, Builtin.firstCells, loadCells, loadCellsFrom, Result.andThen]
  | some b =>
    cases A <;> simp [Builtin.append_, run_underlying ht, sizeOf, typeInfo, hi, Builtin.lenOf, Builtin.firstCells, loadCells, loadCellsFrom, hn, storeCells, Result.andThen]
/-- append of entries, the slice that is appended nil or not -/
theorem run_append_opt (w : World) (base : Nat) (t ty e : TypeId) (i : TypeInfo) (z : Value) (size bytes : Nat) (ht : P.underlying t = some (.slice e)) (hi : P.info? e = some i) (hz : i.zero = some z)
    (hsize : i.size = size) (hby : i.bytes = bytes) (hzs : z.cells.size = size) (hsz : 0 < size)
    (v : Value) (n : Nat) (xs : List Value) (hown : w.ownsRow base e size v n xs)
    (A : Option Addr) (m c : Nat) (news : List Value) (hl : news.length = m * size) (hA : 0 < m → ∃ ad, A = some ad ∧ ∀ j u, news[j]? = some u → w.cell? (ad.add j) = some u) (h1 : ∀ u ∈ news, u.oneCell' = true)
    (h63 : n + m ≤ maxLen) (hbytes : (n + m) * bytes ≤ 140737488355328) (hbase : base ≤ w.heap.size) :
    ∃ v' w', (Builtin.append_ #[t, t] ty #[v, .slice A m c]).run P w = .ok v' w' ∧ w'.ownsRow base e size v' (n + m) (xs ++ news) ∧ w.grownBy w' v.ownBlock := by
  by_cases hm : m = 0
  · subst hm
    obtain rfl : news = [] := List.eq_nil_of_length_eq_zero (by omega)
    refine ⟨v, w, ?_, by simpa using hown, ⟨rfl, rfl, rfl, Nat.le_refl _, fun _ _ _ => rfl⟩⟩
    rcases hown.2 with ⟨rfl, rfl⟩ | ⟨g, cap, cur, rfl, _, _, hnc, hcm, _, _⟩
    · exact run_append_zero w t ty e i ht hi none A 0 0 c (fun _ => ⟨rfl, rfl⟩) (Nat.le_refl _) (Nat.zero_le _)
    · exact run_append_zero w t ty e i ht hi _ A n cap c (fun h => by cases h) hnc (by omega)
  · obtain ⟨ad, rfl, hc⟩ := hA (by omega)
    obtain ⟨v', w', h1, h2, h3, _⟩ := run_append_own (P := P) w base t ty e i z size bytes ht hi hz hsize hby hzs hsz v n xs hown ad m c news hl hc h1 h63 hbytes hbase
    exact ⟨v', w', h1, h2, h3⟩
theorem wpList_append_opt {ops : Array Oper} {rest : List Oper} {o : Oper} {a : Act} {Q : Exit → Act → World → Prop} (w : World) (hgd : o.guard = none) (s x : Operand) (t : TypeId)
    (ho : o.op = .call { callee := .builtin .append, args := #[s, x], argTypes := #[t, t] })
    (base : Nat) (e : TypeId) (i : TypeInfo) (z : Value) (size bytes : Nat) (ht : P.underlying t = some (.slice e)) (hi : P.info? e = some i) (hz : i.zero = some z)
    (hsize : i.size = size) (hby : i.bytes = bytes) (hzs : z.cells.size = size) (hsz : 0 < size)
    (v : Value) (n : Nat) (xs : List Value) (hs : a.eval s = v) (hown : w.ownsRow base e size v n xs)
    (A : Option Addr) (m c : Nat) (news : List Value) (hx : a.eval x = .slice A m c) (hl : news.length = m * size) (hA : 0 < m → ∃ ad, A = some ad ∧ ∀ j u, news[j]? = some u → w.cell? (ad.add j) = some u) (h1 : ∀ u ∈ news, u.oneCell' = true)
    (h63 : n + m ≤ maxLen) (hbytes : (n + m) * bytes ≤ 140737488355328) (hbase : base ≤ w.heap.size)
    (h : ∀ v' w', w'.ownsRow base e size v' (n + m) (xs ++ news) → w.grownBy w' v.ownBlock → wpList P ops Q rest (a.put o.dst v') w') : wpList P ops Q (o :: rest) a w := by
  refine wpList_plain hgd fun K hK => ?_
  obtain ⟨v', w', hrun, r1, r2⟩ := run_append_opt (P := P) w base t o.type e i z size bytes ht hi hz hsize hby hzs hsz v n xs hown A m c news hl hA h1 h63 hbytes hbase
  unfold Oper.wp
  simp [execOp, ho, resolve, invoke, builtin, hs, hx, hrun, Result.andThen]
  exact hK _ _ (h v' w' r1 r2)
theorem step_append_opt {ops : Array Oper} {o : Oper} {a : Act} {K : Act → World → Prop} {Q : Exit → Act → World → Prop} {E : Prop}
    (w : World) (hg : o.guard = none) (s x : Operand) (t : TypeId) (hop : o.op = Op.call { callee := Callee.builtin Builtin.append, args := #[s, x], argTypes := #[t, t] })
    (base : Nat) (e : TypeId) (i : TypeInfo) (z : Value) (size bytes : Nat) (ht : P.underlying t = some (.slice e)) (hi : P.info? e = some i) (hz : i.zero = some z) (hsize : i.size = size) (hby : i.bytes = bytes) (hzs : z.cells.size = size) (hsz : 0 < size)
    (v : Value) (n : Nat) (xs : List Value) (hs : a.eval s = v) (hown : w.ownsRow base e size v n xs)
    (A : Option Addr) (m c : Nat) (news : List Value) (hx : a.eval x = .slice A m c) (hl : news.length = m * size) (hA : 0 < m → ∃ ad, A = some ad ∧ ∀ j u, news[j]? = some u → w.cell? (ad.add j) = some u) (h1 : ∀ u ∈ news, u.oneCell' = true)
    (h63 : n + m ≤ maxLen) (hbytes : (n + m) * bytes ≤ 140737488355328) (hbase : base ≤ w.heap.size)
    (hK : ∀ v' w', w'.ownsRow base e size v' (n + m) (xs ++ news) → w.grownBy w' v.ownBlock → K (a.put o.dst v') w') :
    if Region.wanted o (yielded ops a.tmps) = true then Oper.wp P o a w K Q else E := by
  have hw : Region.wanted o (yielded ops a.tmps) = true := by simp [Region.wanted, hg]
  rw [if_pos hw]
  obtain ⟨v', w', hrun, r1, r2⟩ := run_append_opt (P := P) w base t o.type e i z size bytes ht hi hz hsize hby hzs hsz v n xs hown A m c news hl hA h1 h63 hbytes hbase
  unfold Oper.wp
  simp [execOp, hop, resolve, invoke, builtin, hs, hx, hrun, Result.andThen]
  exact hK v' w' r1 r2
end

/-- entries that lie in memory, as the cells that an append takes -/
theorem Ents.cells {w : World} {A : Option Addr} {n c : Nat} {ls : List rl.Ent} (h : Ents w (.slice A n c) ls) : (entCells ls).length = n * 2 ∧ (0 < n → ∃ ad, A = some ad ∧ ∀ j u, (entCells ls)[j]? = some u → w.cell? (ad.add j) = some u) := by
  obtain ⟨A', c', e, _, _, h0⟩ := h
  obtain ⟨rfl, rfl, rfl⟩ : A = A' ∧ n = ls.length ∧ c = c' := by injection e with e1 e2 e3; exact ⟨e1, e2, e3⟩
  refine ⟨entCells_len ls, fun hn => ?_⟩
  obtain ⟨b, o, rfl, hA⟩ := h0 hn
  refine ⟨_, rfl, fun j u hj => ?_⟩
  have hjl : j < ls.length * 2 := by rw [← entCells_len]; exact (List.getElem?_eq_some_iff.1 hj).1
  obtain ⟨c0, c1⟩ := hA (j / 2) (by omega)
  obtain ⟨g0, g1⟩ := entCells_get ls (j / 2) (by omega)
  rw [addr_add]
  rcases Nat.mod_two_eq_zero_or_one j with e | e
  · have : j / 2 * 2 = j := by omega
    rw [this] at c0 g0
    rw [c0, ← g0, hj]
  · have : j / 2 * 2 + 1 = j := by omega
    rw [Nat.add_assoc, this] at c1
    rw [this] at g1
    rw [c1, ← g1, hj]

theorem info_lent : (Tryz.prog.info? 35).map (fun i => (i.zero, i.size, i.bytes)) = some (some (.agg #[.int .u64 0, .string .empty]), 2, 24) := by kernel_rfl
set_option maxHeartbeats 2000000 in
theorem grow_nil (n : Nat) (w : World) (hn : n ≤ 1000000) :
    Calls Tryz.prog 120 #[.slice none 0 0, .int .i64 (n : Int)] w fun e w' => ∃ v, e = .returned v ∧ w'.ownsRow w.heap.size 35 2 v 0 [] ∧ Below w.heap.size w w' := by
  obtain ⟨i0, hi, hz0, hz1, hz2⟩ := info_parts info_lent
  by_cases h0 : n = 0
  · subst h0
    go_enter Tryz.func120, Tryz.ntmps120
    go_wp2
    go_ret
    exact ⟨_, rfl, World.ownsRow_nil _ _ _ _, Below.refl _ _⟩
  · have hrz : ∀ ty, (Builtin.append_ #[32, 3] ty #[.slice none 0 0, .int .i64 (n : Int)]).run Tryz.prog w = .ok _ _ := fun ty =>
      Lib.run_append_grow_zeros w 32 3 ty 35 i0 _ .i64 .i64 Tryz.underlying32 Tryz.underlying3 hi hz0 none 0 0 [] (run_firstCells_none w.drew i0.size 0 0 0) n (by omega) (by omega) (by omega) (by omega)
        (by rw [hz2]; omega) (growslice_fits (by omega) (by rw [hz2]; omega))
    have hge := grownCap_ge w (0 + n) 0 35
    have hle := grownCap_le_maxLen w (0 + n) 0 35 (by unfold maxLen; omega)
    obtain ⟨G, hG⟩ : ∃ G, grownCap w (0 + n) 0 35 = G := ⟨_, rfl⟩
    rw [hG, Nat.zero_add] at hrz hge
    rw [hG] at hle
    have hw2 : Below w.heap.size w (w.drew.alloc (.cells (#[] ++ Builtin.zeroCells (Value.agg #[.int .u64 0, .string .empty]).cells n ++ Builtin.zeroCells (Value.agg #[.int .u64 0, .string .empty]).cells (G - n)) 35)) :=
      (below_drewN (Below.refl _ w) 1).alloc (Nat.le_refl _) _
    have hb2 := heap_alloc_new w.drew (.cells (#[] ++ Builtin.zeroCells (Value.agg #[.int .u64 0, .string .empty]).cells n ++ Builtin.zeroCells (Value.agg #[.int .u64 0, .string .empty]).cells (G - n)) 35)
    have hsz : (#[] ++ Builtin.zeroCells (Value.agg #[.int .u64 0, .string .empty]).cells n ++ Builtin.zeroCells (Value.agg #[.int .u64 0, .string .empty]).cells (G - n)).size = G * 2 := by
      rw [Array.size_append, Array.size_append, size_zeroCells, size_zeroCells]
      simp [Value.cells]
      omega
    obtain ⟨W, hW⟩ : ∃ W, (w.drew.alloc (.cells (#[] ++ Builtin.zeroCells (Value.agg #[.int .u64 0, .string .empty]).cells n ++ Builtin.zeroCells (Value.agg #[.int .u64 0, .string .empty]).cells (G - n)) 35)) = W := ⟨_, rfl⟩
    rw [hW] at hw2 hb2
    have hrz2 : ∀ ty, (Builtin.append_ #[32, 3] ty #[.slice none 0 0, .int .i64 (n : Int)]).run Tryz.prog w = .ok (.slice (some ⟨w.heap.size, 0, none⟩) n G) W := fun ty => by rw [hrz ty, hW]
    have Hw2 := Lib.hid hw2
    have Hb2 := Lib.hid hb2
    have Hsz := Lib.hid hsz
    unfold maxLen at hle
    clear hrz hW hw2 hb2 hsz hG
    go_enter Tryz.func120, Tryz.ntmps120
    go_wp2_with (at_builtin; refine Lib.wpList_append_run _ rfl _ _ _ _ rfl _ _ rfl rfl _ _ (hrz2 _) ?_)
    go_ret
    refine ⟨_, rfl, ⟨rfl, .inr ⟨w.heap.size, G, _, rfl, Nat.le_refl _, Hb2.out, Nat.zero_le _, hle, Hsz.out, by simp⟩⟩, Hw2.out⟩

/-- a slice of entries lies in a row of entries -/
def RowT (w : World) (u : Value) : Prop := ∀ b o n c, u = .slice (some ⟨b, o, none⟩) n c → ∃ cur, w.heap[b]? = some (.cells cur 35 (0, 0))
theorem RowT.of_owns {w : World} {base n : Nat} {u : Value} {xs : List Value} (h : w.ownsRow base 35 2 u n xs) : RowT w u := fun b o n c e => by
  subst e
  rcases h.2 with ⟨e1, _⟩ | ⟨g, cap, cur, e1, _, hh, _⟩
  · cases e1
  · injection e1 with e1 _ _
    injection e1 with e1
    injection e1 with e1 _ _
    subst e1
    exact ⟨cur, hh⟩
theorem RowT.setCell {w : World} {u : Value} (h : RowT w u) (a : Addr) (x : Value) : RowT (w.setCell a x) u := fun b o n c e => by
  obtain ⟨cur, hc⟩ := h b o n c e
  by_cases hb : b = a.block
  · subst hb
    simp only [World.setCell, Array.getElem?_modify, if_true, hc, Option.map_some]
    exact ⟨_, rfl⟩
  · exact ⟨cur, (Below.heap_setCell _ _ _ b hb).trans hc⟩
theorem RowT.below {w w' : World} {u : Value} (h : RowT w u) (hb : Below w.heap.size w w') : RowT w' u := fun b o n c e => by
  obtain ⟨cur, hc⟩ := h b o n c e
  exact ⟨cur, (hb.block b (Array.getElem?_eq_some_iff.1 hc).1).trans hc⟩
set_option maxHeartbeats 4000000 in
theorem concat_two (la lb : List rl.Ent) (A1 A2 : Option Addr) (n1 c1 n2 c2 g : Nat) (w : World) (h0 : w.cell? ⟨g, 0, none⟩ = some (.slice A1 n1 c1)) (h1 : w.cell? ⟨g, 1, none⟩ = some (.slice A2 n2 c2))
    (hp1 : Ents w (.slice A1 n1 c1) la) (hp2 : Ents w (.slice A2 n2 c2) lb) (hl1 : la.length = n1) (hl2 : lb.length = n2) (hn1 : n1 ≤ 100000) (hn2 : n2 ≤ 100000) :
    Calls Tryz.prog 108 #[.slice (some ⟨g, 0, none⟩) 2 2] w fun e w' => ∃ v, e = .returned v ∧ (Ents w' v (la ++ lb) ∧ RowT w' v) ∧ Below w.heap.size w w' := by
  obtain ⟨i0, hi, hz0, hz1, hz2⟩ := info_parts info_lent
  obtain ⟨m, hm⟩ : ∃ m, n1 + n2 = m := ⟨_, rfl⟩
  have hmi : (n1 : Int) + (n2 : Int) = (m : Int) := by omega
  have hgn := grow_nil m w (by omega)
  have HGN := Lib.hid hgn
  have HP1 := Lib.hid hp1
  have HP2 := Lib.hid hp2
  have Hl1 := Lib.hid hl1
  have Hl2 := Lib.hid hl2
  have hm2 : n1 + n2 ≤ 200000 := by omega
  have Hm := Lib.hid hm
  clear hgn hp1 hp2 hl1 hl2 hm
  go_enter Tryz.func108, Tryz.ntmps108
  go_wp2
  refine wp_loop_rounds 3 ?_
  rw [rounds_succ]
  go_wp2
  rw [rounds_succ]
  go_wp2
  rw [rounds_succ]
  go_wp2_with fail
  refine HGN.out.mono ?_
  rintro e w1 ⟨v1, rfl, hown1, hb1⟩
  have x0 := cell_later hb1 h0
  have x1 := cell_later hb1 h1
  have hq1 := HP1.out.below hb1
  have HB1 := Lib.hid hb1
  have HQ1 := Lib.hid hq1
  clear hb1 hq1
  go_wp2_with fail
  refine wp_loop_rounds 3 ?_
  rw [rounds_succ]
  go_wp2_with (at_builtin; refine wpList_append_opt _ rfl _ _ 32 rfl w.heap.size 35 i0 _ 2 24 Tryz.underlying32 hi hz0 hz1 hz2 rfl (by decide) v1 0 [] rfl hown1 A1 n1 c1 (entCells la) rfl ?c1 ?c2 ?c3 ?c4 ?c5 ?c6 ?_)
  case c1 => exact HQ1.out.cells.1
  case c2 => exact HQ1.out.cells.2
  case c3 => exact entCells_one _
  case c4 => unfold maxLen; omega
  case c5 => omega
  case c6 => exact HB1.out.size
  intro v2 w2 hown2 hgrow2
  have hb2 : Below w.heap.size w w2 := HB1.out.grown hgrow2 HB1.out.size (fun j hj => (hown1.lt j hj).1)
  have y0 := cell_later hb2 h0
  have y1 := cell_later hb2 h1
  have hq2 := HP2.out.below hb2
  have HB2 := Lib.hid hb2
  have HQ2 := Lib.hid hq2
  clear hb2 hq2 hgrow2 hown1
  go_wp2
  rw [rounds_succ]
  go_wp2_with (at_builtin; refine wpList_append_opt _ rfl _ _ 32 rfl w.heap.size 35 i0 _ 2 24 Tryz.underlying32 hi hz0 hz1 hz2 rfl (by decide) v2 _ _ rfl hown2 A2 n2 c2 (entCells lb) rfl ?c1 ?c2 ?c3 ?c4 ?c5 ?c6 ?_)
  case c1 => exact HQ2.out.cells.1
  case c2 => exact HQ2.out.cells.2
  case c3 => exact entCells_one _
  case c4 => unfold maxLen; omega
  case c5 => omega
  case c6 => exact HB2.out.size
  intro v3 w3 hown3 hgrow3
  have hb3 : Below w.heap.size w w3 := HB2.out.grown hgrow3 HB2.out.size (fun j hj => (hown2.lt j hj).1)
  have HB3 := Lib.hid hb3
  clear hb3 hgrow3 hown2
  go_wp2
  rw [rounds_succ]
  go_wp2
  go_ret
  have hown4 : w3.ownsRow w.heap.size 35 2 v3 (la ++ lb).length (entCells (la ++ lb)) := by
    rw [entCells_append, List.length_append, Hl1.out, Hl2.out]
    simpa using hown3
  exact ⟨v3, rfl, ⟨ents_of_owns hown4, RowT.of_owns hown4⟩, HB3.out⟩
end Go.Proofs.YtmcibggjolckoaaGreatDoor
namespace Go.Proofs.YtmcibggjolckoaaGreatDoor
open Go Go.RowKit
set_option maxRecDepth 100000

attribute [local go_sem] Oper.semAt_some

def entV (t : rl.Ent) : Value := .agg #[.int .u64 (t.1 : Int), .string (crcm.mk t.2)]
def encB (x : rl.Ent × rl.Ent) : Array Value := #[entV x.1, entV x.2]
/-- what a round keeps: what lay below n₀, and the boxes of the two lists -/
def KeepB (n₀ B1 B2 : Nat) (W W' : World) : Prop := Below n₀ W W' ∧ W'.heap[B1]? = W.heap[B1]? ∧ W'.heap[B2]? = W.heap[B2]?
theorem AbidesFrom.kmono {β : Type} {B B' : Nat} {J : β → World → Prop} (h : AbidesFrom B J) (hB : B ≤ B') : AbidesFrom B' J :=
  fun s X Y row hs hg hr => h s X Y row hs hg (fun r e => ⟨Nat.le_trans hB (hr r e).1, (hr r e).2⟩)

theorem beside_in (n : Nat) (A1 A2 : Option Addr) (n1 c1 n2 c2 : Nat) (w : World) :
    CallsIn Fence.wide n Tryz.prog 107 #[.slice A1 n1 c1, .slice A2 n2 c2] w fun e w' => e = .returned (.func (.func 119) #[] #[.pointer (some ⟨w.heap.size, 0, none⟩), .pointer (some ⟨w.heap.size + 1, 0, none⟩)]) ∧ w' = (w.alloc (.cells #[.slice A1 n1 c1] 32)).alloc (.cells #[.slice A2 n2 c2] 32) := by
  refine callsIn_of_wp Tryz.func107 rfl trivial ?_ rfl
  simp only [Tryz.ntmps107, List.size_toArray, List.length_cons, List.length_nil, Nat.reduceAdd, Nat.reduceSub, Array.replicate_succ, Array.replicate_zero, List.push_toArray, List.append_toArray, List.nil_append, List.cons_append]
  gi_wp2
  go_ret
  exact ⟨rfl, rfl⟩

theorem zip_take {la lb : List rl.Ent} {k : Nat} (h1 : k < la.length) (h2 : k < lb.length) : (la.zip lb).take (k + 1) = (la.zip lb).take k ++ [(la.getD k rl.e0, lb.getD k rl.e0)] := by
  have h : k < (la.zip lb).length := by rw [List.length_zip]; omega
  rw [List.take_succ_eq_append_getElem h, List.getElem_zip, List.getD_eq_getElem?_getD, List.getD_eq_getElem?_getD, List.getElem?_eq_getElem h1, List.getElem?_eq_getElem h2]
  rfl
set_option maxRecDepth 100000 in
set_option maxHeartbeats 4000000 in
theorem beside1_in (n : Nat) (hn : 1 ≤ n) (l B1 B2 n₀ : Nat) (la lb : List rl.Ent) (A1 A2 : Option Addr) (n1 c1 n2 c2 : Nat) (hl1 : la.length = n1) (hl2 : lb.length = n2) (h1 : n1 ≤ 100000) (h2 : n2 ≤ 100000) (J Jx : List (rl.Ent × rl.Ent) → World → Prop)
    (W0 W : World) (hJ : AbidesFrom W.heap.size J)
    (hY : ∀ pre x W1, J pre W1 → pre.length < (la.zip lb).length → YieldAt Fence.wide (n - 1) Tryz.prog l (encB x) W1 fun e W' =>
      (e = .returned (.bool true) ∧ J (pre ++ [x]) W' ∧ KeepB n₀ B1 B2 W1 W') ∨ (e = .returned (.bool false) ∧ Jx (pre ++ [x]) W'))
    (hB1 : W.heap[B1]? = some (.cells #[.slice A1 n1 c1] 32 (0, 0))) (hB2 : W.heap[B2]? = some (.cells #[.slice A2 n2 c2] 32 (0, 0)))
    (hE1 : Ents W0 (.slice A1 n1 c1) la) (hE2 : Ents W0 (.slice A2 n2 c2) lb) (hn0 : W0.heap.size = n₀) (hW0 : Below n₀ W0 W) (h0 : J [] W) :
    CallsIn Fence.wide n Tryz.prog 119 #[.func (.yield l) #[] #[], .pointer (some ⟨B1, 0, none⟩), .pointer (some ⟨B2, 0, none⟩)] W fun e W' => (∃ v, e = .returned v) ∧
      ((∃ ys, ys = la.zip lb ∧ J ys W') ∨ (∃ pre, pre <+: la.zip lb ∧ Jx pre W')) := by
  obtain ⟨m, hm⟩ : ∃ m, min n1 n2 = m := ⟨_, rfl⟩
  have hmi : min (n1 : Int) (n2 : Int) = (m : Int) := by omega
  have hzl : (la.zip lb).length = m := by rw [List.length_zip, hl1, hl2]; exact hm
  have b1 := cell_of_one hB1
  have b2 := cell_of_one hB2
  have Hl1 := Lib.hid hl1
  have Hl2 := Lib.hid hl2
  have Hm := Lib.hid hm
  have Hz := Lib.hid hzl
  have HE1 := Lib.hid hE1
  have HE2 := Lib.hid hE2
  have HW0 := Lib.hid hW0
  have HY := Lib.hid hY
  have HJ := Lib.hid hJ
  clear hl1 hl2 hm hzl hE1 hE2 hW0 hY hJ
  refine callsIn_of_wp Tryz.func119 rfl trivial ?_ rfl
  simp only [Tryz.ntmps119, List.size_toArray, List.length_cons, List.length_nil, Nat.reduceAdd, Nat.reduceSub, Array.replicate_succ, Array.replicate_zero, List.push_toArray, List.append_toArray, List.nil_append, List.cons_append]
  gi_wp2
  gi_loopw [10] (fun i wr => ∃ k : Nat, k ≤ m ∧ i = .int .i64 k ∧ J ((la.zip lb).take k) wr ∧ KeepB n₀ B1 B2 W wr) (fun i _ => m - (intOf i).toNat)
  case atStart => exact ⟨0, Nat.zero_le _, rfl, h0, Below.refl _ _, rfl, rfl⟩
  case round =>
    obtain ⟨k, hk, rfl, hJs, hkeep⟩ := hrel
    have r1 := cell_of_one (hkeep.2.1.trans hB1)
    have r2 := cell_of_one (hkeep.2.2.trans hB2)
    by_cases hlt : k < m
    · have hk1 : k < n1 := by have := Hm.out; omega
      have hk2 : k < n2 := by have := Hm.out; omega
      obtain ⟨A', c', e, _, _, hh1⟩ := HE1.out
      obtain ⟨rfl, rfl⟩ : A1 = A' ∧ c1 = c' := by injection e with e1 e2 e3; exact ⟨e1, e3⟩
      obtain ⟨b, o, rfl, hA⟩ := hh1 (by rw [Hl1.out]; omega)
      obtain ⟨A'', c'', e', _, _, hh2⟩ := HE2.out
      obtain ⟨rfl, rfl⟩ : A2 = A'' ∧ c2 = c'' := by injection e' with e1 e2 e3; exact ⟨e1, e3⟩
      obtain ⟨b', o', rfl, hB⟩ := hh2 (by rw [Hl2.out]; omega)
      obtain ⟨x0, x1⟩ := hA k (by rw [Hl1.out]; exact hk1)
      obtain ⟨y0, y1⟩ := hB k (by rw [Hl2.out]; exact hk2)
      have hbel : Below W0.heap.size W0 wr := by rw [hn0]; exact HW0.out.trans hkeep.1
      have x0' := cell_later hbel x0
      have x1' := cell_later hbel x1
      have y0' := cell_later hbel y0
      have y1' := cell_later hbel y1
      have hzt := zip_take (la := la) (lb := lb) (k := k) (by rw [Hl1.out]; exact hk1) (by rw [Hl2.out]; exact hk2)
      obtain ⟨x, hx⟩ : ∃ x, la.getD k rl.e0 = x := ⟨_, rfl⟩
      obtain ⟨y, hy⟩ : ∃ x, lb.getD k rl.e0 = x := ⟨_, rfl⟩
      rw [hx] at x0' x1' hzt
      rw [hy] at y0' y1' hzt
      have HZT := Lib.hid hzt
      have hlen : ((la.zip lb).take k).length < (la.zip lb).length := by rw [List.length_take, Hz.out]; omega
      have HLEN := Lib.hid hlen
      have hi1 : (k : Int) < (n1 : Int) := by omega
      have hi2 : (k : Int) < (n2 : Int) := by omega
      have hkm : (k : Int) < (m : Int) := by omega
      clear e e' hh1 hh2 hA hB x0 x1 y0 y1 hbel hx hy hzt hlen
      gi_wp2
      have hJ1 := (AbidesFrom.kmono HJ.out hkeep.1.size) _ wr wr.drew none hJs (grown_of_below (below_drewN (Below.refl _ wr) 1) none) (by intro r e; cases e)
      obtain ⟨fn, tmps, assign, body, hy, hR⟩ := HY.out _ (x, y) wr.drew hJ1 HLEN.out
      dsimp only [encB, entV] at hy
      have hR2 := hR.mono (R' := fun e W' => ∃ bb, e = .returned (.bool bb) ∧ ((bb = true ∧ J ((la.zip lb).take k ++ [(x, y)]) W' ∧ KeepB n₀ B1 B2 wr.drew W') ∨ (bb = false ∧ Jx ((la.zip lb).take k ++ [(x, y)]) W'))) (by
        rintro e W' (⟨h1, h2, h3⟩ | ⟨h1, h2⟩)
        · exact ⟨true, h1, .inl ⟨rfl, h2, h3⟩⟩
        · exact ⟨false, h1, .inr ⟨rfl, h2⟩⟩)
      clear hR hJ1 HY hJs
      gi_region_with (refine hR2.mono ?_; rintro e W3 ⟨bb, rfl, hcase⟩)
      all_goals
        rcases hcase with ⟨rfl, hJ3, hk3⟩ | ⟨rfl, hJx3⟩
        · have hkd : KeepB n₀ B1 B2 wr W3 := ⟨(below_drewN (Below.refl n₀ wr) 1).trans hk3.1, hk3.2⟩
          gi_wp2
          go_roundw
          case rel => exact ⟨k + 1, by omega, by go_num, by rw [HZT.out]; exact hJ3, hkeep.1.trans hkd.1, hkd.2.1.trans hkeep.2.1, hkd.2.2.trans hkeep.2.2⟩
          case measure => simp [intOf]; omega
        · gi_wp2
          refine bodyPost_ret (results_none rfl _ _ _) rfl ?_
          exact ⟨⟨_, rfl⟩, .inr ⟨_, by rw [← HZT.out]; exact List.take_prefix _ _, hJx3⟩⟩
    · obtain rfl : k = m := by omega
      have htk : (la.zip lb).take k = la.zip lb := List.take_of_length_le (by rw [Hz.out]; exact Nat.le_refl _)
      rw [htk] at hJs
      gi_wp2
      refine bodyPost_end (results_none rfl _ _ _) rfl ?_
      exact ⟨⟨_, rfl⟩, .inl ⟨_, rfl, hJs⟩⟩
end Go.Proofs.YtmcibggjolckoaaGreatDoor
namespace Go.Proofs.YtmcibggjolckoaaGreatDoor
open Go Go.RowKit
set_option maxRecDepth 100000

theorem results_cell_two {P : Program} {fn : Func} {p u v : Tmp} {ty : TypeId} (h : fn.results = #[.cell p ty, .tmp u, .tmp v]) (tmps : Array Value) (w : World) (g : Nat) (t : TypeId) (cs : Array Value) (fr : Nat × Nat) (d : TypeDesc)
    (hp : tmps.getD p undef = .pointer (some ⟨g, 0, none⟩)) (hg : w.heap[g]? = some (.cells cs t fr))
    (hu : P.underlying ty = some d) (hd : (match d with | .struct _ | .array _ _ => true | _ => false) = true) (hi : (P.info? ty).map (·.size) = some cs.size) :
    (results fn tmps).run P w = .ok (.tuple #[.agg cs, tmps.getD u undef, tmps.getD v undef]) w := by
  have hp' : tmps[p]?.getD undef = .pointer (some ⟨g, 0, none⟩) := by simpa using hp
  simp [results, h, hp', asAddr, run_loadVar_row w g t ty cs fr d hg hu hd hi]

def MatchPost (T : Nat) (V : Int) (v : Value) (ls : List rl.Ent) (prev pt : Nat) (l : List rl.Ent) (w : World) (e : Ending) (w' : World) : Prop :=
  ∃ u, e = .returned (.tuple #[stV T V u, .int .u64 ((rl.match_ ls prev pt l).2.1 : Nat), .int .i64 ((rl.match_ ls prev pt l).2.2 : Nat)]) ∧ Ents w' u (rl.match_ ls prev pt l).1 ∧ (u = v ∨ RowT w' u) ∧ Below w.heap.size w w'

set_option maxHeartbeats 2000000 in
theorem match_none (T : Nat) (V : Int) (A : Option Addr) (n c : Nat) (ls : List rl.Ent) (prev pt : Nat) (lv : Value) (l : List rl.Ent) (w : World) (hn : ls.length = n) (hv : Ents w (.slice A n c) ls) (hl : n ≤ 10000) (hp : prev < 18446744073709551616) (hne : rl.termAt ls prev ≠ (pt, true)) :
    Calls Tryz.prog 83 #[stV T V (.slice A n c), .int .u64 (prev : Int), .int .u64 (pt : Int), lv] w (MatchPost T V (.slice A n c) ls prev pt l w) := by
  have hfin : rl.match_ ls prev pt l = (ls, 0, 3) := by unfold rl.match_; rw [if_neg hne]
  have hb : Below w.heap.size w ((w.alloc (.cells #[.int .u64 (T : Int), .int .i64 V, .slice A n c] 46)).alloc (.cells #[.int .u64 0, .int .i64 0, .slice none 0 0] 46)) := ((Below.refl _ w).alloc (Nat.le_refl _) _).alloc (by simp) _
  have bs := (Blk.new w [.int .u64 (T : Int), .int .i64 V, .slice A n c] 46).alloc (.cells #[.int .u64 0, .int .i64 0, .slice none 0 0] 46)
  have br := Blk.new (w.alloc (.cells #[.int .u64 (T : Int), .int .i64 V, .slice A n c] 46)) [.int .u64 0, .int .i64 0, .slice none 0 0] 46
  simp only [World.size_alloc] at br
  have hta := termAt_any T V (.slice A n c) ls prev _ (hv.below hb) (by omega) hp
  obtain ⟨t, is, ht⟩ : ∃ t is, rl.termAt ls prev = (t, is) := ⟨_, _, rfl⟩
  rw [ht] at hta hne
  have Hfin := Lib.hid hfin
  have HTA := Lib.hid hta
  have Hb := Lib.hid hb
  have HBS := Lib.hid bs
  have HBR := Lib.hid br
  have Hv := Lib.hid hv
  clear hfin hta hb bs br hv ht
  unfold stV at *
  go_enter Tryz.func83, Tryz.ntmps83
  go_wp2_with fail
  refine HTA.out.mono ?_
  rintro e w1 ⟨rfl, hb1⟩
  have bs1 := HBS.out.below hb1
  have br1 := HBR.out.below hb1
  have HB1 := Lib.hid (Hb.out.trans (hb1.mono Hb.out.size))
  have s0 := bs1.cell 0 _ rfl
  have s1 := bs1.cell 1 _ rfl
  have s2 := bs1.cell 2 _ rfl
  have f0 := br1.free 0
  have f1 := br1.free 1
  have f2 := br1.free 2
  have r0 := br1.cell 0 _ rfl
  have r1 := br1.cell 1 _ rfl
  have r2 := br1.cell 2 _ rfl
  have hR2 := ((br1.set 0 (.int .u64 (T : Int))).set 1 (.int .i64 V)).set 2 (.slice A n c)
  have HR2 := Lib.hid hR2
  clear hb1 bs1 br1 hR2
  have hend : ∀ X : World, X = ((w1.setCell ⟨w.heap.size + 1, 0, none⟩ (.int .u64 (T : Int))).setCell ⟨w.heap.size + 1, 1, none⟩ (.int .i64 V)).setCell ⟨w.heap.size + 1, 2, none⟩ (.slice A n c) → Below w.heap.size w X := by
    rintro X rfl
    have g := grown_trans (grown_trans (set_grown w1 ⟨w.heap.size + 1, 0, none⟩ (.int .u64 (T : Int))) (set_grown _ ⟨w.heap.size + 1, 1, none⟩ (.int .i64 V))) (set_grown _ ⟨w.heap.size + 1, 2, none⟩ (.slice A n c))
    exact HB1.out.grown g HB1.out.size (fun j hj => by cases hj; exact Nat.le_succ _)
  have HEND := Lib.hid hend
  clear hend
  cases is with
  | false =>
    go_wp2
    refine bodyPost_ret (results_cell_two rfl _ _ (w.heap.size + 1) _ _ (0, 0) _ rfl HR2.out Tryz.underlying46 rfl state_size) rfl ?_
    unfold MatchPost
    rw [Hfin.out]
    exact ⟨_, rfl, Hv.out.below (HEND.out _ rfl), .inl rfl, HEND.out _ rfl⟩
  | true =>
    have hne' : ((t : Int) != (pt : Int)) = true := by
      rw [bne_iff_ne]; intro h; apply hne; rw [show t = pt from by omega]
    go_wp2
    refine bodyPost_ret (results_cell_two rfl _ _ (w.heap.size + 1) _ _ (0, 0) _ rfl HR2.out Tryz.underlying46 rfl state_size) rfl ?_
    unfold MatchPost
    rw [Hfin.out]
    exact ⟨_, rfl, Hv.out.below (HEND.out _ rfl), .inl rfl, HEND.out _ rfl⟩
end Go.Proofs.YtmcibggjolckoaaGreatDoor
