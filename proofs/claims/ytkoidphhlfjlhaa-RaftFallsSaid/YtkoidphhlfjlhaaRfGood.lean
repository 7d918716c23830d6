/- What a tick leaves as it was. No program in sight. -/
import Derived.Test.YtkoidphhlfjlhaaRfStand
namespace Go.Proofs.Ytkoidphhlfjlhaa
open rl (Ent e0)

structure Good (n : rf.Node) : Prop where
  id0 : 0 ≤ n.id
  id7 : n.id < 7
  m0 : 0 ≤ n.many
  i0 : 0 ≤ n.idle
  i1 : n.idle ≤ 100
theorem add_idle (n : rf.Node) (t : List UInt8) : (rf.add n t).1.idle = n.idle := by
  unfold rf.add
  dsimp only
  rw [tally_with]
  rfl
theorem lead_idle (n : rf.Node) : (rf.lead n).1.idle = 0 := by
  unfold rf.lead
  rw [add_idle]
  rfl
theorem voted_idle (n : rf.Node) (K : Nat) (h : K < 7) : (rf.voted n (K : Int)).1.idle = n.idle ∨ (rf.voted n (K : Int)).1.idle = 0 := by
  rcases voted_cases n K h with e | e <;> rw [e]
  · exact .inl rfl
  · exact .inr (lead_idle _)
theorem stand_fst (n : rf.Node) : (rf.stand n).1 = (rf.voted (rf.stood n) n.id).1 := by
  unfold rf.stand
  split <;> rfl
theorem stand_good {n : rf.Node} (h : Good n) : Good (rf.stand n).1 ∧ (rf.stand n).1.id = n.id ∧ (rf.stand n).1.many = n.many ∧ (rf.stand n).1.log.length ≤ n.log.length + 1 := by
  obtain ⟨K, hK⟩ : ∃ K : Nat, n.id = (K : Int) := ⟨n.id.toNat, by have := h.id0; omega⟩
  have hK7 : K < 7 := by have := h.id7; omega
  rw [stand_fst, hK]
  have e1 := voted_id (rf.stood n) K hK7
  have e2 := voted_many (rf.stood n) K hK7
  have e3 := voted_len (rf.stood n) K hK7
  have e4 := voted_idle (rf.stood n) K hK7
  have s1 : (rf.stood n).id = (K : Int) := hK
  have s2 : (rf.stood n).many = n.many := rfl
  have s3 : (rf.stood n).log = n.log := rfl
  have s4 : (rf.stood n).idle = 0 := rfl
  rw [s4] at e4
  rw [s3] at e3
  have e5 : (rf.voted (rf.stood n) (K : Int)).1.idle = 0 := by rcases e4 with h | h <;> exact h
  refine ⟨⟨by rw [e1, s1]; omega, by rw [e1, s1]; omega, by rw [e2, s2]; exact h.m0, by omega, by omega⟩, by rw [e1, s1], by rw [e2, s2], e3⟩
theorem tick_good {n : rf.Node} (h : Good n) : Good (rf.tick n).1 ∧ (rf.tick n).1.id = n.id ∧ (rf.tick n).1.many = n.many ∧ (rf.tick n).1.log.length ≤ n.log.length + 1 := by
  have h0 := h.i0
  have h1 := h.i1
  have h2 := h.id7
  unfold rf.tick
  split
  · split
    · exact ⟨⟨h.id0, h.id7, h.m0, Int.le_refl _, (by decide : (0 : Int) ≤ 100)⟩, rfl, rfl, Nat.le_succ _⟩
    · exact ⟨⟨h.id0, h.id7, h.m0, by dsimp only; omega, by dsimp only; omega⟩, rfl, rfl, Nat.le_succ _⟩
  · split
    · have hg := stand_good (n := { n with idle := 0 }) ⟨h.id0, h.id7, h.m0, Int.le_refl _, (by decide : (0 : Int) ≤ 100)⟩
      have e : rf.stand { n with idle := n.idle + 1 } = rf.stand { n with idle := 0 } := rfl
      rw [e]
      exact hg
    · rename_i hlt
      exact ⟨⟨h.id0, h.id7, h.m0, by dsimp only; omega, by dsimp only; omega⟩, rfl, rfl, Nat.le_succ _⟩
/-- so many ticks -/
def ticks (n : rf.Node) : Nat → rf.Node
  | 0 => n
  | k + 1 => (rf.tick (ticks n k)).1
theorem ticks_good {n : rf.Node} (h : Good n) (k : Nat) : Good (ticks n k) ∧ (ticks n k).id = n.id ∧ (ticks n k).many = n.many ∧ (ticks n k).log.length ≤ n.log.length + k := by
  induction k with
  | zero => exact ⟨h, rfl, rfl, Nat.le_refl _⟩
  | succ k ih =>
    obtain ⟨i1, i2, i3, i4⟩ := ih
    obtain ⟨j1, j2, j3, j4⟩ := tick_good i1
    exact ⟨j1, j2.trans i2, j3.trans i3, by unfold ticks; omega⟩
end Go.Proofs.Ytkoidphhlfjlhaa
