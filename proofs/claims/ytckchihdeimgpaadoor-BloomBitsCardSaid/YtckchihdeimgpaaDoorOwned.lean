/- Rows that the call makes, and what is read of them: small lemmas. -/
import Derived.Test.YtckchihdeimgpaaDoorStrs
import Derived.WalkSmall
namespace Go.Proofs.YtckchihdeimgpaaDoor
open Go Go.RowKit

theorem grown_of_below {a w : World} (h : Below a.heap.size a w) (row : Option Nat) : a.grownBy w row := ⟨h.os, h.tape, h.output, h.size, fun i hi _ => h.block i hi⟩
theorem owns_below {a w : World} {base : Nat} {e : TypeId} {size n : Nat} {v : Value} {xs : List Value} (h : a.ownsRow base e size v n xs) (hb : Below a.heap.size a w) : w.ownsRow base e size v n xs :=
  h.kept (grown_of_below hb none) (by cases v.ownBlock with | none => exact .inl rfl | some k => exact .inr (by simp))
theorem cell_new1 (w : World) (v : Value) (e : TypeId) : ∀ j u, [v][j]? = some u → (w.alloc (.cells #[v] e)).cell? ((⟨w.heap.size, 0, none⟩ : Addr).add j) = some u := by
  intro j u hj
  match j, hj with
  | 0, hj => simp at hj; subst hj; simp [Addr.add]
/-- the slice v holds these values, one cell each -/
def Vals (w : World) (v : Value) (xs : List Value) : Prop := ∃ A c, v = .slice A xs.length c ∧ xs.length ≤ c ∧ ∀ k u, xs[k]? = some u → ∃ ad, A = some ad ∧ w.cell? (ad.add k) = some u
theorem Vals.below {w w' : World} {v : Value} {xs : List Value} (h : Vals w v xs) (hb : Below w.heap.size w w') : Vals w' v xs := by
  obtain ⟨A, c, e, hl, hc⟩ := h
  exact ⟨A, c, e, hl, fun k u hk => by obtain ⟨ad, e2, h2⟩ := hc k u hk; exact ⟨ad, e2, cell_later hb h2⟩⟩
theorem Vals.nil (w : World) : Vals w (.slice none 0 0) [] := ⟨none, 0, rfl, Nat.le_refl _, fun k u hk => by simp at hk⟩
theorem vals_of_owns {w : World} {base : Nat} {e : TypeId} {v : Value} {n : Nat} {xs : List Value} (h : w.ownsRow base e 1 v n xs) : Vals w v xs := by
  have hn : xs.length = n := by have := h.1; omega
  subst hn
  rcases h.2 with ⟨rfl, h0⟩ | ⟨g, cap, cur, rfl, hg, hh, hcap, hmax, hcur, hrest⟩
  · obtain rfl : xs = [] := List.eq_nil_of_length_eq_zero h0
    exact ⟨none, 0, rfl, Nat.le_refl _, fun k u hk => by simp at hk⟩
  · refine ⟨_, cap, rfl, by omega, fun k u hk => ⟨_, rfl, h.cells (g := g) rfl k u hk⟩⟩
end Go.Proofs.YtckchihdeimgpaaDoor
