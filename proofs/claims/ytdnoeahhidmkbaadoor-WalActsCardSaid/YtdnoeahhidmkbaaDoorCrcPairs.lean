/- The texts that stand one behind the other, each with where it ends. No program. -/
import Derived.Test.YtdnoeahhidmkbaaDoorCrcText
namespace Go.Proofs.YtdnoeahhidmkbaaDoor.crcm
def pairs : Nat → Nat → List UInt8 → List (Nat × List UInt8)
  | 0, _, _ => []
  | f + 1, k, s => if (get s).2.2 = 0 then (k + (get s).2.1, (get s).1) :: pairs f (k + (get s).2.1) (s.drop (get s).2.1) else []
theorem pairs_more : ∀ (f g k : Nat) (s : List UInt8), s.length ≤ f → s.length ≤ g → pairs f k s = pairs g k s := by
  intro f
  induction f with
  | zero =>
    intro g k s hf hg
    have : s = [] := List.eq_nil_of_length_eq_zero (by omega)
    subst this
    cases g with
    | zero => rfl
    | succ g => rfl
  | succ f ih =>
    intro g k s hf hg
    cases g with
    | zero =>
      have : s = [] := List.eq_nil_of_length_eq_zero (by omega)
      subst this
      rfl
    | succ g =>
      unfold pairs
      by_cases h : (get s).2.2 = 0
      · obtain ⟨h6, hle, _⟩ := get_ok h
        rw [if_pos h, if_pos h, ih g _ (s.drop (get s).2.1) (by rw [List.length_drop]; omega) (by rw [List.length_drop]; omega)]
      · rw [if_neg h, if_neg h]
def pairsFrom (k : Nat) (s : List UInt8) : List (Nat × List UInt8) := pairs s.length k s
theorem pairsFrom_step {k : Nat} {s : List UInt8} (h : (get s).2.2 = 0) : pairsFrom k s = (k + (get s).2.1, (get s).1) :: pairsFrom (k + (get s).2.1) (s.drop (get s).2.1) := by
  obtain ⟨h6, hle, _⟩ := get_ok h
  unfold pairsFrom
  obtain ⟨n, hn⟩ : ∃ n, s.length = n + 1 := ⟨s.length - 1, by omega⟩
  rw [hn]
  conv => lhs; unfold pairs
  rw [if_pos h, pairs_more n (s.drop (get s).2.1).length _ _ (by rw [List.length_drop]; omega) (Nat.le_refl _)]
theorem pairsFrom_stop {k : Nat} {s : List UInt8} (h : (get s).2.2 ≠ 0) : pairsFrom k s = [] := by
  unfold pairsFrom
  cases s.length with
  | zero => rfl
  | succ n => unfold pairs; rw [if_neg h]
/-- where the last one ends -/
def lastEnd (d : Nat) (ps : List (Nat × List UInt8)) : Nat := ps.foldl (fun _ p => p.1) d
theorem lastEnd_snoc (d : Nat) (ps : List (Nat × List UInt8)) (x : Nat × List UInt8) : lastEnd d (ps ++ [x]) = x.1 := by simp [lastEnd]
theorem pairs_all : ∀ (n : Nat) (k : Nat) (s : List UInt8), s.length ≤ n → (pairsFrom k s).map (·.2) = (allOf s).1 ∧ lastEnd k (pairsFrom k s) = k + (allOf s).2 ∧ (pairsFrom k s).length ≤ s.length := by
  intro n
  induction n with
  | zero =>
    intro k s hs
    have : s = [] := List.eq_nil_of_length_eq_zero (by omega)
    subst this
    exact ⟨rfl, rfl, Nat.le_refl _⟩
  | succ n ih =>
    intro k s hs
    by_cases h : (get s).2.2 = 0
    · obtain ⟨h6, hle, _⟩ := get_ok h
      obtain ⟨h1, h2, h3⟩ := ih (k + (get s).2.1) (s.drop (get s).2.1) (by rw [List.length_drop]; omega)
      rw [List.length_drop] at h3
      rw [pairsFrom_step h, allOf_step h]
      refine ⟨by rw [List.map_cons, h1], ?_, by rw [List.length_cons]; omega⟩
      show lastEnd (k + (get s).2.1) _ = _
      rw [h2]
      show _ = k + ((get s).2.1 + _)
      omega
    · rw [pairsFrom_stop h, allOf_stop h]
      exact ⟨rfl, rfl, Nat.zero_le _⟩
end Go.Proofs.YtdnoeahhidmkbaaDoor.crcm
