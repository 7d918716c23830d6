/- append of a slice of strings that may be nil; a string of noughts; rows of the caller's own beside a disk. -/
import Derived.Lib.AppendZerosOnto
import Derived.Lib.SliceRun
import Derived.Lib.Walk
import Derived.Test.YtdnoeahhidmkbaaDoorWlUse
namespace Go.Proofs.YtdnoeahhidmkbaaDoor
open Go Go.RowKit
set_option maxRecDepth 100000

section
variable {P : Program} {w : World} {base : Nat} {e : TypeId} {size bytes : Nat} {v : Value} {n : Nat} {xs : List Value}
theorem app_zero (w : World) (t ty e : TypeId) (i : TypeInfo) (ht : P.underlying t = some (.slice e)) (hi : P.info? e = some i) (B A : Option Addr) (n cap c : Nat) (hB : B = none → n = 0 ∧ cap = 0) (hn : n ≤ cap) (hcap : n ≤ maxLen) :
    (Builtin.append_ #[t, t] ty #[.slice B n cap, .slice A 0 c]).run P w = .ok (.slice B n cap) w := by
  unfold maxLen at hcap
  have h63 : ¬ (9223372036854775807 : Int) < (n : Int) := by omega
  cases B with
  | none =>
    obtain ⟨rfl, rfl⟩ := hB rfl
    cases A <;> simp [Builtin.append_, run_underlying ht, sizeOf, typeInfo, hi, Builtin.lenOf, Builtin.firstCells, loadCells, loadCellsFrom, Result.andThen]
  | some b =>
    cases A <;> simp [Builtin.append_, run_underlying ht, sizeOf, typeInfo, hi, Builtin.lenOf, Builtin.firstCells, loadCells, loadCellsFrom, hn, storeCells, Result.andThen]
/-- append of entries, the slice that is appended nil or not -/
theorem run_app_opt (w : World) (base : Nat) (t ty e : TypeId) (i : TypeInfo) (z : Value) (size bytes : Nat) (ht : P.underlying t = some (.slice e)) (hi : P.info? e = some i) (hz : i.zero = some z)
    (hsize : i.size = size) (hby : i.bytes = bytes) (hzs : z.cells.size = size) (hsz : 0 < size)
    (v : Value) (n : Nat) (xs : List Value) (hown : w.ownsRow base e size v n xs)
    (A : Option Addr) (m c : Nat) (news : List Value) (hl : news.length = m * size) (hA : 0 < m → ∃ ad, A = some ad ∧ ∀ j u, news[j]? = some u → w.cell? (ad.add j) = some u) (h1 : ∀ u ∈ news, u.oneCell' = true)
    (h63 : n + m ≤ maxLen) (hbytes : (n + m) * bytes ≤ 140737488355328) (hbase : base ≤ w.heap.size) :
    ∃ v' w', (Builtin.append_ #[t, t] ty #[v, .slice A m c]).run P w = .ok v' w' ∧ w'.ownsRow base e size v' (n + m) (xs ++ news) ∧ w.grownBy w' v.ownBlock := by
  by_cases hm : m = 0
  · subst hm
    obtain rfl : news = [] := List.eq_nil_of_length_eq_zero (by omega)
    refine ⟨v, w, ?_, by simpa using hown, ⟨rfl, rfl, rfl, Nat.le_refl _, fun _ _ _ => rfl⟩⟩
    rcases hown.2 with ⟨rfl, rfl⟩ | ⟨g, cap, cur, rfl, _, _, hnc, hcm, _, _⟩
    · exact app_zero w t ty e i ht hi none A 0 0 c (fun _ => ⟨rfl, rfl⟩) (Nat.le_refl _) (Nat.zero_le _)
    · exact app_zero w t ty e i ht hi _ A n cap c (fun h => by cases h) hnc (by omega)
  · obtain ⟨ad, rfl, hc⟩ := hA (by omega)
    obtain ⟨v', w', h1, h2, h3, _⟩ := run_append_own (P := P) w base t ty e i z size bytes ht hi hz hsize hby hzs hsz v n xs hown ad m c news hl hc h1 h63 hbytes hbase
    exact ⟨v', w', h1, h2, h3⟩
theorem wpList_app_opt {ops : Array Oper} {rest : List Oper} {o : Oper} {a : Act} {Q : Exit → Act → World → Prop} (w : World) (hgd : o.guard = none) (s x : Operand) (t : TypeId)
    (ho : o.op = .call { callee := .builtin .append, args := #[s, x], argTypes := #[t, t] })
    (base : Nat) (e : TypeId) (i : TypeInfo) (z : Value) (size bytes : Nat) (ht : P.underlying t = some (.slice e)) (hi : P.info? e = some i) (hz : i.zero = some z)
    (hsize : i.size = size) (hby : i.bytes = bytes) (hzs : z.cells.size = size) (hsz : 0 < size)
    (v : Value) (n : Nat) (xs : List Value) (hs : a.eval s = v) (hown : w.ownsRow base e size v n xs)
    (A : Option Addr) (m c : Nat) (news : List Value) (hx : a.eval x = .slice A m c) (hl : news.length = m * size) (hA : 0 < m → ∃ ad, A = some ad ∧ ∀ j u, news[j]? = some u → w.cell? (ad.add j) = some u) (h1 : ∀ u ∈ news, u.oneCell' = true)
    (h63 : n + m ≤ maxLen) (hbytes : (n + m) * bytes ≤ 140737488355328) (hbase : base ≤ w.heap.size)
    (h : ∀ v' w', w'.ownsRow base e size v' (n + m) (xs ++ news) → w.grownBy w' v.ownBlock → wpList P ops Q rest (a.put o.dst v') w') : wpList P ops Q (o :: rest) a w := by
  refine wpList_plain hgd fun K hK => ?_
  obtain ⟨v', w', hrun, r1, r2⟩ := run_app_opt (P := P) w base t o.type e i z size bytes ht hi hz hsize hby hzs hsz v n xs hown A m c news hl hA h1 h63 hbytes hbase
  unfold Oper.wp
  simp [execOp, ho, resolve, invoke, builtin, hs, hx, hrun, Result.andThen]
  exact hK _ _ (h v' w' r1 r2)
theorem step_app_opt {ops : Array Oper} {o : Oper} {a : Act} {K : Act → World → Prop} {Q : Exit → Act → World → Prop} {E : Prop}
    (w : World) (hg : o.guard = none) (s x : Operand) (t : TypeId) (hop : o.op = Op.call { callee := Callee.builtin Builtin.append, args := #[s, x], argTypes := #[t, t] })
    (base : Nat) (e : TypeId) (i : TypeInfo) (z : Value) (size bytes : Nat) (ht : P.underlying t = some (.slice e)) (hi : P.info? e = some i) (hz : i.zero = some z) (hsize : i.size = size) (hby : i.bytes = bytes) (hzs : z.cells.size = size) (hsz : 0 < size)
    (v : Value) (n : Nat) (xs : List Value) (hs : a.eval s = v) (hown : w.ownsRow base e size v n xs)
    (A : Option Addr) (m c : Nat) (news : List Value) (hx : a.eval x = .slice A m c) (hl : news.length = m * size) (hA : 0 < m → ∃ ad, A = some ad ∧ ∀ j u, news[j]? = some u → w.cell? (ad.add j) = some u) (h1 : ∀ u ∈ news, u.oneCell' = true)
    (h63 : n + m ≤ maxLen) (hbytes : (n + m) * bytes ≤ 140737488355328) (hbase : base ≤ w.heap.size)
    (hK : ∀ v' w', w'.ownsRow base e size v' (n + m) (xs ++ news) → w.grownBy w' v.ownBlock → K (a.put o.dst v') w') :
    if Region.wanted o (yielded ops a.tmps) = true then Oper.wp P o a w K Q else E := by
  have hw : Region.wanted o (yielded ops a.tmps) = true := by simp [Region.wanted, hg]
  rw [if_pos hw]
  obtain ⟨v', w', hrun, r1, r2⟩ := run_app_opt (P := P) w base t o.type e i z size bytes ht hi hz hsize hby hzs hsz v n xs hown A m c news hl hA h1 h63 hbytes hbase
  unfold Oper.wp
  simp [execOp, hop, resolve, invoke, builtin, hs, hx, hrun, Result.andThen]
  exact hK v' w' r1 r2
end

theorem winfo_u8 : (Tryd.prog.info? 5).map (fun i => (i.zero, i.size, i.bytes)) = some (some (.int .u8 0), 1, 1) := by kernel_rfl

/-- a row of noughts, and the string of them -/
theorem wnoughts (m : Nat) (hm : m ≤ 1000000) : ∃ (Z : World → Obj) (s : ByteArray), s.size = m ∧
    (∀ W : World, (Instr.makeSlice 37 (.int .i64 (m : Int)) (.int .i64 (m : Int))).run Tryd.prog W = .ok (.slice (some ⟨W.heap.size, 0, none⟩) m m) (W.alloc (Z W))) ∧
    (∀ W : World, (convert 37 9 (.slice (some ⟨W.heap.size, 0, none⟩) m m)).run Tryd.prog (W.alloc (Z W)) = .ok (.string s) (W.alloc (Z W))) := by
  obtain ⟨i0, hi, hz0, hz1, hz2⟩ := info_parts winfo_u8
  refine ⟨fun _ => .cells (madeCells #[.int .u8 0] m) 5, crcm.mk (List.replicate m 0), by rw [crcm.mk_size, List.length_replicate], fun W => ?_, fun W => ?_⟩
  · have h := run_make (P := Tryd.prog) W 37 5 i0 (.int .u8 0) Tryd.underlying37 hi hz0 .i64 .i64 (m : Int) (m : Int) (by omega) (Int.le_refl _) (by rw [hz2]; omega) (by omega)
    rw [hz1, Nat.mul_one, Int.toNat_natCast] at h
    exact h
  · have h := run_convert_bytes_back (P := Tryd.prog) (W.alloc (.cells (madeCells #[.int .u8 0] m) 5)) 37 9 5 ⟨W.heap.size, 0, none⟩ m (List.replicate m 0) Tryd.underlying37 Tryd.underlying5 Tryd.underlying9 (by
      intro j hj
      rw [List.length_replicate] at hj
      have hc : (madeCells #[Value.int .u8 0] m)[j]? = some (.int .u8 0) := by
        rw [← Array.getElem?_toList, toList_madeCells_one, List.getElem?_replicate, if_pos hj]
      have : (W.alloc (.cells (madeCells #[Value.int .u8 0] m) 5)).cell? ((⟨W.heap.size, 0, none⟩ : Addr).add j) = (madeCells #[Value.int .u8 0] m)[j]? := by
        rw [show (⟨W.heap.size, 0, none⟩ : Addr).add j = ⟨W.heap.size, j, none⟩ from by unfold Addr.add; split <;> simp_all]
        exact cell_of_row _ _ _ _ _ (0, 0) (heap_alloc_new W _)
      rw [this, hc, List.getElem_replicate]
      rfl)
    rw [List.length_replicate] at h
    exact h


/-- a row of strings is none of the disk's blocks -/
theorem own_out {w : World} {base n : Nat} {v : Value} {xs : List Value} (h : w.ownsRow base 9 1 v n xs) {p b g : Nat} {d : vd.Disk} {l : wl.L} (hd : Dk w p b d) (hg : Lg w g p l) : ∀ x, v.ownBlock = some x → x ∉ [p, b, g] := by
  intro x hx
  rcases h.2 with ⟨rfl, _⟩ | ⟨y, cap, cur, rfl, _, hh, _⟩
  · cases hx
  · obtain rfl : y = x := by simpa [Value.ownBlock] using hx
    intro hm
    rcases List.mem_cons.1 hm with rfl | hm
    · have := hd.blk
      unfold Vb at this
      rw [hh] at this
      simp at this
    rcases List.mem_cons.1 hm with rfl | hm
    · obtain ⟨es, c, hb, _⟩ := hd.map
      rw [hh] at hb; cases hb
    rcases List.mem_cons.1 hm with rfl | hm
    · have : w.heap[y]? = _ := hg
      rw [hh] at this
      simp at this
    cases hm
theorem own_kept {w w' : World} {base n : Nat} {v : Value} {xs : List Value} (h : w.ownsRow base 9 1 v n xs) {p b g : Nat} {d : vd.Disk} {l : wl.L} (hd : Dk w p b d) (hg : Lg w g p l) (hA : Apart [p, b, g] w w') : w'.ownsRow base 9 1 v n xs :=
  owns_apart h hA (own_out h hd hg)
theorem apart_own {w w' : World} {v : Value} (h : w.grownBy w' v.ownBlock) : Apart v.ownBlock.toList w w' :=
  ⟨h.os, h.tape, h.output, h.size, fun k hk hn => h.block k hk (fun e => hn (by rw [← e]; simp))⟩
theorem ldk_own {w0 w w' : World} {n : Nat} {v : Value} {xs : List Value} {p b g : Nat} {d : vd.Disk} {l : wl.L} (hd : Ldk w0 w p b d) (hg : Lg w g p l) (h : w.ownsRow w0.heap.size 9 1 v n xs) (hgr : w.grownBy w' v.ownBlock) : Ldk w0 w' p b d ∧ Lg w' g p l := by
  have hA := apart_own hgr
  have ho := own_out h hd.dk hg
  have hn : ∀ x ∈ [p, b, g], x ∉ v.ownBlock.toList := by
    intro x hx hm
    have : v.ownBlock = some x := by simpa using hm
    exact ho x this hx
  refine ⟨hd.next hA ?_ (hd.dk.apart hA (hn p (by simp)) (hn b (by simp))) hd.ok rfl, hg.apart hA (hn g (by simp))⟩
  intro x hx
  have hx : v.ownBlock = some x := by simpa using hx
  rcases h.2 with ⟨rfl, _⟩ | ⟨y, cap, cur, rfl, hb, _⟩
  · cases hx
  · obtain rfl : y = x := by simpa [Value.ownBlock] using hx
    exact hb
theorem Lg.later {w w' : World} {g p : Nat} {l : wl.L} (h : Lg w g p l) (hb : Below w.heap.size w w') : Lg w' g p l := (hb.block _ (Vb.lt h)).trans h
theorem strs_cells {w : World} {A : Option Addr} {c : Nat} {ls : List (List UInt8)} (h : Strs w (.slice A ls.length c) ls) : 0 < ls.length → ∃ ad, A = some ad ∧ ∀ j u, (ls.map strV)[j]? = some u → w.cell? (ad.add j) = some u := by
  intro h0
  obtain ⟨A', c', e, hc⟩ := h
  injection e with e1 e2 e3
  subst e1 e3
  obtain ⟨ad, h1, _⟩ := hc 0 h0
  refine ⟨ad, h1, fun j u hj => ?_⟩
  have hjl : j < ls.length := by
    have := (List.getElem?_eq_some_iff.1 hj).1
    simpa using this
  obtain ⟨ad', h2, h3⟩ := hc j hjl
  rw [h1] at h2
  obtain rfl := Option.some.inj h2
  rw [h3]
  rw [List.getElem?_map, List.getElem?_eq_getElem hjl] at hj
  rw [List.getD_eq_getElem?_getD, List.getElem?_eq_getElem hjl]
  exact hj
end Go.Proofs.YtdnoeahhidmkbaaDoor
