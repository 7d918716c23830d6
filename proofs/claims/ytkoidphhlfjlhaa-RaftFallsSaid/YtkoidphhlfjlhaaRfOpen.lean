/- What comes in as a state, as entries, as a message. -/
import Derived.Test.YtkoidphhlfjlhaaRfAskVote
import Derived.Test.YtkoidphhlfjlhaaFrame
namespace Go.Proofs.Ytkoidphhlfjlhaa
open Go Go.RowKit Go.Deep Go.ChangeShapes Go.WideShapes Go.ChangeAt

theorem state_of_reading {H : Type} {enc : TypeId × Value → H} {W : World} {r : Reach} {b0 base : Nat} {held : Bool} {v : Value} {d : DataW H} {p : List MemPlace}
    (hv : Value.okWide Try.prog W r b0 25 v) (h : DataW.Trod enc Try.prog W base (fun _ => true) held 25 v d p) :
    ∃ (T : Nat) (V : Int) (x : Value) (ls : List rl.Ent), v = stV T V x ∧ Ents W x ls ∧ Fine ls ∧ T < 18446744073709551616 ∧ -9223372036854775808 ≤ V ∧ V ≤ 9223372036854775807 := by
  obtain ⟨c0, c1, c2, y0, y1, y2, m, rfl, _, _, hy0, hy1, hy2⟩ := Joins.open_agg3 Try.underlying25 (by kernel_rfl) (by kernel_rfl) hv h
  obtain ⟨k0, e0, _, hw0⟩ := DataW.trod_int Try.underlying22 hy0
  obtain ⟨k1, e1, _, hw1⟩ := DataW.trod_int Try.underlying3 hy1
  obtain rfl : c0 = .int .u64 k0 := by simpa using e0
  obtain rfl : c1 = .int .i64 k1 := by simpa using e1
  have b0 := bounds_u64 hw0
  have b1 := bounds_i64 hw1
  obtain ⟨T, rfl⟩ := Int.eq_ofNat_of_zero_le b0.1
  obtain ⟨ls, hE, hF⟩ := ents_of_reading (tt := 22) (ts := 9) Try.underlying23 Try.underlying54 (by kernel_rfl) rfl rfl (by kernel_rfl) (by kernel_rfl) rfl rfl Try.underlying22 Try.underlying9 hy2
  exact ⟨T, k1, c2, ls, rfl, hE, hF, by omega, by omega, by omega⟩
/-- each field of a struct of one-cell fields is read by itself -/
theorem agg_field {H : Type} {enc : TypeId × Value → H} {P : Program} {W : World} {base : Nat} {spare : Nat → Bool} {held : Bool} {t : TypeId} {fs : Array Field} {cs : Array Value} {d : DataW H} {p : List MemPlace}
    (ht : P.underlying t = some (.struct fs)) (hone : oneCellFields P fs = true) (h : DataW.Trod enc P W base spare held t (.agg cs) d p) :
    ∃ n, ∀ (i : Nat) (f : Field) (c : Value), fs[i]? = some f → cs[i]? = some c → ∃ y, DataW.trod enc P W base spare held n f.type [c] = some y := by
  obtain ⟨fuel, hf⟩ := h
  obtain ⟨xs, n, _, _, _, hlen, hx⟩ := DataW.trod_struct ht hf
  refine ⟨n, fun i f c hi hc => ?_⟩
  have h1 := hx i f hi
  obtain ⟨o1, o2⟩ := hone_of hone i f hi
  have hlt : i < fs.size := (Array.getElem?_eq_some_iff.1 hi).1
  have hl : ((Value.agg cs).cells.toList.drop f.offset).take (P.cellsOf f.type) = [c] := by
    rw [o1, o2]
    have hc2 : cs.toList[i]? = some c := by simpa using hc
    obtain ⟨hlt2, hg⟩ := List.getElem?_eq_some_iff.1 hc2
    have e : (Value.agg cs).cells.toList = cs.toList := by simp [Value.cells]
    rw [e, List.drop_eq_getElem_cons hlt2, List.take_succ_cons, List.take_zero, hg]
  rw [hl] at h1
  exact ⟨xs[i]'(by omega), h1.trans (List.getElem?_eq_getElem (by omega))⟩
theorem array9 {α : Type} {cs : Array α} (h : cs.size = 9) : ∃ c0 c1 c2 c3 c4 c5 c6 c7 c8, cs = #[c0, c1, c2, c3, c4, c5, c6, c7, c8] := by
  obtain ⟨l⟩ := cs
  match l, h with
  | [c0, c1, c2, c3, c4, c5, c6, c7, c8], _ => exact ⟨c0, c1, c2, c3, c4, c5, c6, c7, c8, rfl⟩
theorem msg_of_reading {H : Type} {enc : TypeId × Value → H} {W : World} {r : Reach} {b0 base : Nat} {held : Bool} {v : Value} {d : DataW H} {p : List MemPlace}
    (hv : Value.okWide Try.prog W r b0 27 v) (h : DataW.Trod enc Try.prog W base (fun _ => true) held 27 v d p) :
    ∃ (m : rf.Msg) (x : Value), v = msgV m x ∧ Ents W x m.ents ∧ Fine m.ents ∧ m.index < 18446744073709551616 := by
  obtain ⟨cs, rfl, hsz⟩ := okWide_struct Try.underlying27 hv
  obtain ⟨c0, c1, c2, c3, c4, c5, c6, c7, c8, rfl⟩ := array9 (hsz.trans (by kernel_rfl))
  obtain ⟨n, hg⟩ := agg_field Try.underlying27 (by kernel_rfl) h
  obtain ⟨y0, g0⟩ := hg 0 _ c0 rfl rfl
  obtain ⟨y1, g1⟩ := hg 1 _ c1 rfl rfl
  obtain ⟨y2, g2⟩ := hg 2 _ c2 rfl rfl
  obtain ⟨y3, g3⟩ := hg 3 _ c3 rfl rfl
  obtain ⟨y4, g4⟩ := hg 4 _ c4 rfl rfl
  obtain ⟨y5, g5⟩ := hg 5 _ c5 rfl rfl
  obtain ⟨y6, g6⟩ := hg 6 _ c6 rfl rfl
  obtain ⟨y7, g7⟩ := hg 7 _ c7 rfl rfl
  obtain ⟨y8, g8⟩ := hg 8 _ c8 rfl rfl
  obtain ⟨k0, e0, _, _⟩ := DataW.trod_int Try.underlying3 g0
  obtain ⟨k1, e1, _, _⟩ := DataW.trod_int Try.underlying3 g1
  obtain ⟨k2, e2, _, _⟩ := DataW.trod_int Try.underlying3 g2
  obtain ⟨k3, e3, _, w3⟩ := DataW.trod_int Try.underlying22 g3
  obtain ⟨k4, e4, _, w4⟩ := DataW.trod_int Try.underlying22 g4
  obtain ⟨k5, e5, _, w5⟩ := DataW.trod_int Try.underlying22 g5
  obtain ⟨k6, e6, _, w6⟩ := DataW.trod_int Try.underlying22 g6
  obtain ⟨ls, hE, hF⟩ := ents_of_reading (tt := 22) (ts := 9) Try.underlying23 Try.underlying54 (by kernel_rfl) rfl rfl (by kernel_rfl) (by kernel_rfl) rfl rfl Try.underlying22 Try.underlying9 g7
  obtain ⟨k8, e8, _⟩ := DataW.trod_bool Try.underlying4 g8
  have b3 := bounds_u64 w3
  have b4 := bounds_u64 w4
  have b5 := bounds_u64 w5
  have b6 := bounds_u64 w6
  obtain ⟨n3, rfl⟩ := Int.eq_ofNat_of_zero_le b3.1
  obtain ⟨n4, rfl⟩ := Int.eq_ofNat_of_zero_le b4.1
  obtain ⟨n5, rfl⟩ := Int.eq_ofNat_of_zero_le b5.1
  obtain ⟨n6, rfl⟩ := Int.eq_ofNat_of_zero_le b6.1
  simp only [List.cons.injEq, and_true] at e0 e1 e2 e3 e4 e5 e6 e8
  subst e0 e1 e2 e3 e4 e5 e6 e8
  exact ⟨⟨k0, k1, k2, n3, n4, n5, n6, ls, k8⟩, c7, rfl, hE, hF, by dsimp only; omega⟩
end Go.Proofs.Ytkoidphhlfjlhaa
