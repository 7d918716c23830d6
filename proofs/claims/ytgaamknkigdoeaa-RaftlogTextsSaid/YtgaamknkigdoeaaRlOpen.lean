/- What comes in as a state, as entries. -/
import Derived.Test.YtgaamknkigdoeaaRlIts
import Derived.Test.YtgaamknkigdoeaaFrame
namespace Go.Proofs.Ytgaamknkigdoeaa
open Go Go.RowKit Go.Deep Go.ChangeShapes Go.WideShapes Go.ChangeAt

theorem state_of_reading {H : Type} {enc : TypeId × Value → H} {W : World} {r : Reach} {b0 base : Nat} {held : Bool} {v : Value} {d : DataW H} {p : List MemPlace}
    (hv : Value.okWide Try.prog W r b0 25 v) (h : DataW.Trod enc Try.prog W base (fun _ => true) held 25 v d p) :
    ∃ (T : Nat) (V : Int) (x : Value) (ls : List rl.Ent), v = stV T V x ∧ Ents W x ls ∧ Fine ls ∧ T < 18446744073709551616 ∧ -9223372036854775808 ≤ V ∧ V ≤ 9223372036854775807 := by
  obtain ⟨c0, c1, c2, y0, y1, y2, m, rfl, _, _, hy0, hy1, hy2⟩ := Joins.open_agg3 Try.underlying25 (by kernel_rfl) (by kernel_rfl) hv h
  obtain ⟨k0, e0, _, hw0⟩ := DataW.trod_int Try.underlying22 hy0
  obtain ⟨k1, e1, _, hw1⟩ := DataW.trod_int Try.underlying3 hy1
  obtain rfl : c0 = .int .u64 k0 := by simpa using e0
  obtain rfl : c1 = .int .i64 k1 := by simpa using e1
  have b0 := bounds_u64 hw0
  have b1 := bounds_i64 hw1
  obtain ⟨T, rfl⟩ := Int.eq_ofNat_of_zero_le b0.1
  obtain ⟨ls, hE, hF⟩ := ents_of_reading (tt := 22) (ts := 9) Try.underlying23 Try.underlying34 (by kernel_rfl) rfl rfl (by kernel_rfl) (by kernel_rfl) rfl rfl Try.underlying22 Try.underlying9 hy2
  exact ⟨T, k1, c2, ls, rfl, hE, hF, by omega, by omega, by omega⟩
theorem ents_of_arg {H : Type} {enc : TypeId × Value → H} {W : World} {r : Reach} {b0 base : Nat} {held : Bool} {v : Value} {d : DataW H} {p : List MemPlace}
    (hv : Value.okWide Try.prog W r b0 23 v) (h : DataW.Trod enc Try.prog W base (fun _ => true) held 23 v d p) : ∃ ls, Ents W v ls ∧ Fine ls := by
  obtain ⟨a, len, cap, rfl⟩ := okWide_slice Try.underlying23 hv
  obtain ⟨fuel, hf⟩ := h
  exact ents_of_reading (tt := 22) (ts := 9) Try.underlying23 Try.underlying34 (by kernel_rfl) rfl rfl (by kernel_rfl) (by kernel_rfl) rfl rfl Try.underlying22 Try.underlying9 hf
end Go.Proofs.Ytgaamknkigdoeaa
