/- ref17.Same of one node, twice: true. -/
import Derived.Test.YtkoidphhlfjlhaaRfIts2
import Derived.DeepKeys
namespace Go.Proofs.Ytkoidphhlfjlhaa
open Go Go.RowKit Go.Deep
set_option maxRecDepth 100000

theorem same16_self (T : Nat) (V : Int) (A A2 : Option Addr) (L c c2 : Nat) (ls : List rl.Ent) (w : World) (hu : Ents w (.slice A L c) ls) (hv : Ents w (.slice A2 L c2) ls) (hl : ls.length ≤ 100000) :
    Calls Try.prog 25 #[.agg #[.int .u64 (T : Int), .int .i64 V, .slice A L c], .agg #[.int .u64 (T : Int), .int .i64 V, .slice A2 L c2]] w fun e w' => e = .returned (.bool true) ∧ Below w.heap.size w w' := by
  have h := same_any T T V V (.slice A L c) (.slice A2 L c2) ls ls w hu hv hl hl
  have hd : decide (T = T ∧ V = V ∧ ls = ls) = true := by simp
  rw [hd] at h
  exact h
theorem eqItems_self {P : Program} (d : Nat) (e : TypeId) (he : P.plainKey e = true) (xs : Array Value) (w : World) (h : ∀ v ∈ xs, (Op.equalIn d e v v).run P w = .ok true w) : ∀ is : List Nat, (∀ i ∈ is, i < xs.size) → (Op.eqItems d e 1 xs xs is).run P w = .ok true w
  | [], _ => by simp [Op.eqItems]
  | i :: is, hb => by
    have hi : i < xs.size := hb i (by simp)
    have hx : xs[i * 1]? = some xs[i] := by rw [Nat.mul_one]; exact Array.getElem?_eq_getElem hi
    have p := run_part_plain (w := w) he hx
    rw [Nat.mul_one] at p
    have r := eqItems_self d e he xs w h is (fun j hj => hb j (by simp [hj]))
    simp [Op.eqItems, Sem.run_bind, p, h _ (Array.getElem_mem hi), Result.andThen_ok, r]
theorem eq_self {P : Program} {t e : TypeId} {n : Nat} {i : TypeInfo} (hu : P.underlying t = some (.array n e)) (hi : P.info? e = some i) (hc : P.cellsOf e = 1) (he : P.plainKey e = true) (xs : Array Value) (hn : xs.size = n) (w : World) (h : ∀ v ∈ xs, (Op.equalIn 9999 e v v).run P w = .ok true w) : (Op.equalIn 10000 t (.agg xs) (.agg xs)).run P w = .ok true w := by
  rw [run_equalIn_array w 9999 xs xs hu hi, hc]
  exact eqItems_self 9999 e he xs w h _ (fun j hj => by rw [hn]; exact List.mem_range.1 hj)
theorem info_some {P : Program} {e : TypeId} (h : (P.info? e).isSome = true) : ∃ i, P.info? e = some i := Option.isSome_iff_exists.1 h
theorem eq7b (v0 v1 v2 v3 v4 v5 v6 : Bool) (w : World) : (Op.equalIn 10000 30 (.agg #[.bool v0, .bool v1, .bool v2, .bool v3, .bool v4, .bool v5, .bool v6]) (.agg #[.bool v0, .bool v1, .bool v2, .bool v3, .bool v4, .bool v5, .bool v6])).run Try.prog w = .ok true w := by
  obtain ⟨i, hi⟩ := info_some (P := Try.prog) (e := 4) (by kernel_rfl)
  refine eq_self Try.underlying30 hi (by kernel_rfl) (by kernel_rfl) _ rfl w (fun v hv => ?_)
  simp only [List.mem_toArray, List.mem_cons, List.not_mem_nil, or_false] at hv
  rcases hv with rfl | rfl | rfl | rfl | rfl | rfl | rfl <;> (rw [run_equalIn_bool' w 9998 _ _ _ (by kernel_rfl)]; simp)
theorem eq7n (x0 x1 x2 x3 x4 x5 x6 : Nat) (w : World) : (Op.equalIn 10000 31 (.agg #[.int .u64 (x0 : Int), .int .u64 (x1 : Int), .int .u64 (x2 : Int), .int .u64 (x3 : Int), .int .u64 (x4 : Int), .int .u64 (x5 : Int), .int .u64 (x6 : Int)]) (.agg #[.int .u64 (x0 : Int), .int .u64 (x1 : Int), .int .u64 (x2 : Int), .int .u64 (x3 : Int), .int .u64 (x4 : Int), .int .u64 (x5 : Int), .int .u64 (x6 : Int)])).run Try.prog w = .ok true w := by
  obtain ⟨i, hi⟩ := info_some (P := Try.prog) (e := 22) (by kernel_rfl)
  refine eq_self Try.underlying31 hi (by kernel_rfl) (by kernel_rfl) _ rfl w (fun v hv => ?_)
  simp only [List.mem_toArray, List.mem_cons, List.not_mem_nil, or_false] at hv
  rcases hv with rfl | rfl | rfl | rfl | rfl | rfl | rfl <;> (rw [run_equalIn_int w 9998 _ _ .u64 _ _ (by kernel_rfl)]; simp)
set_option maxHeartbeats 8000000 in
theorem same17_self (n : rf.Node) (A A2 : Option Addr) (L c c2 : Nat) (w : World) (hu : Ents w (.slice A L c) n.log) (hv : Ents w (.slice A2 L c2) n.log) (ok : NOk n) (hl : n.log.length ≤ 10000) :
    Calls Try.prog 11 #[ndV n (.slice A L c), ndV n (.slice A2 L c2)] w fun e w' => e = .returned (.bool true) ∧ Below w.heap.size w w' := by
  obtain ⟨X, b, hX, hb, hbX, kb⟩ := box_blk w (ndC n (.slice A L c)) 44
  obtain ⟨Y, r, hY, hr, hbY, kr⟩ := box_blk X (ndC n (.slice A2 L c2)) 44
  obtain rfl : r = b + 1 := by rw [← hr, ← hX, ← hb]; simp
  have hbXY := hbX.trans (hbY.mono hbX.size)
  have HC := Lib.hid (same16_self n.term n.vote A A2 L c c2 n.log Y (hu.below hbXY) (hv.below hbXY) (by omega))
  have HXY := Lib.hid hbXY
  have kbY := kb.below hbY
  have MKB : Hid (∀ W, Below Y.heap.size Y W → Blk W b (ndC n (.slice A L c)) 44 ∧ Blk W (b + 1) (ndC n (.slice A2 L c2)) 44) := Lib.hid (fun W h => ⟨kbY.below h, kr.below h⟩)
  clear hbXY hbX hbY kb kr kbY hu hv hl
  obtain ⟨h1, h2, h3, _, _⟩ := ok
  obtain ⟨na, nb, nc, nd, ne, nf, ng, ni, nj, v, x, m⟩ := n
  dsimp only at h1 h2 h3 HC
  rcases v with _ | ⟨v0, _ | ⟨v1, _ | ⟨v2, _ | ⟨v3, _ | ⟨v4, _ | ⟨v5, _ | ⟨v6, _ | ⟨v7, v⟩⟩⟩⟩⟩⟩⟩⟩ <;> simp at h1
  rcases x with _ | ⟨x0, _ | ⟨x1, _ | ⟨x2, _ | ⟨x3, _ | ⟨x4, _ | ⟨x5, _ | ⟨x6, _ | ⟨x7, x⟩⟩⟩⟩⟩⟩⟩⟩ <;> simp at h2
  rcases m with _ | ⟨m0, _ | ⟨m1, _ | ⟨m2, _ | ⟨m3, _ | ⟨m4, _ | ⟨m5, _ | ⟨m6, _ | ⟨m7, m⟩⟩⟩⟩⟩⟩⟩⟩ <;> simp at h3
  have HX := Lib.hid hX
  have HY := Lib.hid hY
  clear hX hY h1 h2 h3
  unfold ndV
  simp only [ndC, List.map_cons, List.map_nil, List.cons_append, List.nil_append] at HX HY MKB ⊢
  go_enter Try.func11, Try.ntmps11
  obtain ⟨k0, k1⟩ := MKB.out Y (Below.refl _ _)
  have HK0 := Lib.hid k0
  have HK1 := Lib.hid k1
  have a0 := k0.cell 0 _ rfl
  have a1 := k0.cell 1 _ rfl
  have a2 := k0.cell 2 _ rfl
  have a3 := k0.cell 3 _ rfl
  have a4 := k0.cell 4 _ rfl
  have a5 := k0.cell 5 _ rfl
  have a6 := k0.cell 6 _ rfl
  have a7 := k0.cell 7 _ rfl
  have a8 := k0.cell 8 _ rfl
  have a9 := k0.cell 9 _ rfl
  have a10 := k0.cell 10 _ rfl
  have a11 := k0.cell 11 _ rfl
  have a12 := k0.cell 12 _ rfl
  have a13 := k0.cell 13 _ rfl
  have a14 := k0.cell 14 _ rfl
  have a15 := k0.cell 15 _ rfl
  have a16 := k0.cell 16 _ rfl
  have a17 := k0.cell 17 _ rfl
  have a18 := k0.cell 18 _ rfl
  have a19 := k0.cell 19 _ rfl
  have a20 := k0.cell 20 _ rfl
  have a21 := k0.cell 21 _ rfl
  have a22 := k0.cell 22 _ rfl
  have a23 := k0.cell 23 _ rfl
  have a24 := k0.cell 24 _ rfl
  have a25 := k0.cell 25 _ rfl
  have a26 := k0.cell 26 _ rfl
  have a27 := k0.cell 27 _ rfl
  have a28 := k0.cell 28 _ rfl
  have a29 := k0.cell 29 _ rfl
  have b0 := k1.cell 0 _ rfl
  have b1 := k1.cell 1 _ rfl
  have b2 := k1.cell 2 _ rfl
  have b3 := k1.cell 3 _ rfl
  have b4 := k1.cell 4 _ rfl
  have b5 := k1.cell 5 _ rfl
  have b6 := k1.cell 6 _ rfl
  have b7 := k1.cell 7 _ rfl
  have b8 := k1.cell 8 _ rfl
  have b9 := k1.cell 9 _ rfl
  have b10 := k1.cell 10 _ rfl
  have b11 := k1.cell 11 _ rfl
  have b12 := k1.cell 12 _ rfl
  have b13 := k1.cell 13 _ rfl
  have b14 := k1.cell 14 _ rfl
  have b15 := k1.cell 15 _ rfl
  have b16 := k1.cell 16 _ rfl
  have b17 := k1.cell 17 _ rfl
  have b18 := k1.cell 18 _ rfl
  have b19 := k1.cell 19 _ rfl
  have b20 := k1.cell 20 _ rfl
  have b21 := k1.cell 21 _ rfl
  have b22 := k1.cell 22 _ rfl
  have b23 := k1.cell 23 _ rfl
  have b24 := k1.cell 24 _ rfl
  have b25 := k1.cell 25 _ rfl
  have b26 := k1.cell 26 _ rfl
  have b27 := k1.cell 27 _ rfl
  have b28 := k1.cell 28 _ rfl
  have b29 := k1.cell 29 _ rfl
  clear k0 k1
  have e1 := eq7b v0 v1 v2 v3 v4 v5 v6
  have e2 := eq7n x0 x1 x2 x3 x4 x5 x6
  have e3 := eq7n m0 m1 m2 m3 m4 m5 m6
  go_wp2_with (first | (go_at_call 25; rw [HX.out, HY.out]; refine HC.out.mono ?_; rintro e w6 ⟨rfl, hb6⟩; obtain ⟨k0, k1⟩ := MKB.out _ hb6; have HB6 := Lib.hid (HXY.out.trans (hb6.mono HXY.out.size)); clear hb6; have c5 := k0.cell 5 _ rfl; have c6 := k0.cell 6 _ rfl; have c7 := k0.cell 7 _ rfl; have c8 := k0.cell 8 _ rfl; have c9 := k0.cell 9 _ rfl; have c10 := k0.cell 10 _ rfl; have c11 := k0.cell 11 _ rfl; have c12 := k0.cell 12 _ rfl; have c13 := k0.cell 13 _ rfl; have c14 := k0.cell 14 _ rfl; have c15 := k0.cell 15 _ rfl; have c16 := k0.cell 16 _ rfl; have c17 := k0.cell 17 _ rfl; have c18 := k0.cell 18 _ rfl; have c19 := k0.cell 19 _ rfl; have c20 := k0.cell 20 _ rfl; have c21 := k0.cell 21 _ rfl; have c22 := k0.cell 22 _ rfl; have c23 := k0.cell 23 _ rfl; have c24 := k0.cell 24 _ rfl; have c25 := k0.cell 25 _ rfl; have c26 := k0.cell 26 _ rfl; have c27 := k0.cell 27 _ rfl; have c28 := k0.cell 28 _ rfl; have c29 := k0.cell 29 _ rfl; have d5 := k1.cell 5 _ rfl; have d6 := k1.cell 6 _ rfl; have d7 := k1.cell 7 _ rfl; have d8 := k1.cell 8 _ rfl; have d9 := k1.cell 9 _ rfl; have d10 := k1.cell 10 _ rfl; have d11 := k1.cell 11 _ rfl; have d12 := k1.cell 12 _ rfl; have d13 := k1.cell 13 _ rfl; have d14 := k1.cell 14 _ rfl; have d15 := k1.cell 15 _ rfl; have d16 := k1.cell 16 _ rfl; have d17 := k1.cell 17 _ rfl; have d18 := k1.cell 18 _ rfl; have d19 := k1.cell 19 _ rfl; have d20 := k1.cell 20 _ rfl; have d21 := k1.cell 21 _ rfl; have d22 := k1.cell 22 _ rfl; have d23 := k1.cell 23 _ rfl; have d24 := k1.cell 24 _ rfl; have d25 := k1.cell 25 _ rfl; have d26 := k1.cell 26 _ rfl; have d27 := k1.cell 27 _ rfl; have d28 := k1.cell 28 _ rfl; have d29 := k1.cell 29 _ rfl; clear k0 k1))
  go_ret
  exact ⟨rfl, HB6.out⟩
end Go.Proofs.Ytkoidphhlfjlhaa
