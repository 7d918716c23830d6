/- How much a tick and a message tell; what a message of a greater term does. No program in sight. -/
import Derived.Test.YtkoidphhlfjlhaaRfGood
namespace Go.Proofs.Ytkoidphhlfjlhaa
open rl (Ent e0)

/-- no message holds more than 10000 entries -/
def Small (ms : List rf.Msg) : Prop := ∀ m ∈ ms, m.ents.length ≤ 10000
theorem Small.nil : Small [] := fun _ h => by cases h
theorem Small.one {m : rf.Msg} (h : m.ents = []) : Small [m] := fun x hx => by
  rw [List.mem_singleton.1 hx, h]
  exact Nat.zero_le _
theorem Small.append {a b : List rf.Msg} (h : Small a) (g : Small b) : Small (a ++ b) := fun x hx => by
  rcases List.mem_append.1 hx with h1 | h1
  · exact h x h1
  · exact g x h1
theorem putMsg_small (n : rf.Node) (j : Nat) : (rf.putMsg n j).ents.length ≤ 10000 := by
  unfold rf.putMsg
  dsimp only
  rw [List.length_take]
  omega
theorem puts_small (n : rf.Node) : Small (rf.puts n) := fun x hx => by
  unfold rf.puts at hx
  obtain ⟨j, _, rfl⟩ := List.mem_map.1 hx
  exact putMsg_small n j
theorem asks_small (n : rf.Node) : Small (rf.asks n) ∧ (rf.asks n).length ≤ 7 := by
  refine ⟨fun x hx => ?_, ?_⟩
  · unfold rf.asks at hx
    obtain ⟨j, _, rfl⟩ := List.mem_map.1 hx
    exact Nat.zero_le _
  · unfold rf.asks rf.others rf.size
    rw [List.length_map]
    have := List.length_filter_le (fun j : Nat => (j : Int) != n.id) (List.range (min n.many 7).toNat)
    rw [List.length_range] at this
    omega
theorem voted_small (n : rf.Node) (K : Nat) (h : K < 7) : Small (rf.voted n (K : Int)).2 := by
  rcases voted_cases n K h with e | e <;> rw [e]
  · exact Small.nil
  · exact puts_small _
theorem add_term (n : rf.Node) (t : List UInt8) : (rf.add n t).1.term = n.term := by
  unfold rf.add
  dsimp only
  rw [tally_with]
  rfl
theorem voted_term (n : rf.Node) (K : Nat) (h : K < 7) : (rf.voted n (K : Int)).1.term = n.term := by
  rcases voted_cases n K h with e | e <;> rw [e]
  exact add_term _ _
theorem stand_small {n : rf.Node} (h0 : 0 ≤ n.id) (h7 : n.id < 7) : Small (rf.stand n).2 ∧ (rf.stand n).2.length ≤ 14 ∧ (rf.stand n).1.term ≤ n.term + 1 := by
  obtain ⟨K, hK⟩ : ∃ K : Nat, n.id = (K : Int) := ⟨n.id.toNat, by omega⟩
  have hK7 : K < 7 := by omega
  have v1 := voted_small (rf.stood n) K hK7
  have v2 := voted_out (rf.stood n) K hK7
  have v3 : (rf.stand n).1.term ≤ n.term + 1 := by
    rw [stand_fst, hK, voted_term _ K hK7]
    exact Nat.mod_le _ _
  refine ⟨?_, ?_, v3⟩
  · unfold rf.stand
    rw [hK]
    split
    · exact v1
    · exact v1.append (asks_small _).1
  · unfold rf.stand
    rw [hK]
    split
    · omega
    · rw [List.length_append]
      have := (asks_small (rf.voted (rf.stood n) (K : Int)).1).2
      omega
theorem tick_small {n : rf.Node} (h0 : 0 ≤ n.id) (h7 : n.id < 7) : Small (rf.tick n).2 ∧ (rf.tick n).2.length ≤ 14 ∧ (rf.tick n).1.term ≤ n.term + 1 := by
  unfold rf.tick
  split
  · split
    · exact ⟨puts_small _, by have := puts_len { n with idle := 0 }; dsimp only; omega, Nat.le_succ _⟩
    · exact ⟨Small.nil, Nat.zero_le _, Nat.le_succ _⟩
  · split
    · exact stand_small (n := { n with idle := n.idle + 1 }) h0 h7
    · exact ⟨Small.nil, Nat.zero_le _, Nat.le_succ _⟩
theorem ticks_term {n : rf.Node} (h : Good n) (k : Nat) : (ticks n k).term ≤ n.term + k := by
  induction k with
  | zero => exact Nat.le_refl _
  | succ k ih =>
    have hg := (ticks_good h k).1
    have := (tick_small hg.id0 hg.id7).2.2
    unfold ticks
    omega
theorem fresh_log (n : rf.Node) (m : rf.Msg) : (rf.fresh n m).log = n.log := by
  unfold rf.fresh
  split
  · unfold rf.back
    split <;> rfl
  · rfl
theorem match_long (ls l : List Ent) (p t : Nat) : (rl.match_ ls p t l).1.length ≤ ls.length + l.length := by
  unfold rl.match_
  split
  · dsimp only
    split
    · rw [List.length_append, List.length_take, List.length_drop]; omega
    · omega
  · dsimp only; omega
theorem taken_log (n : rf.Node) (m : rf.Msg) : (rf.taken n m).log = n.log := by
  unfold rf.taken rf.back
  split <;> rfl
theorem one14 {x : rf.Msg} : [x].length ≤ 14 := by simp
theorem put_small (n : rf.Node) (m : rf.Msg) : Small (rf.put n m).2 ∧ (rf.put n m).2.length ≤ 14 ∧ (rf.put n m).1.log.length ≤ n.log.length + m.ents.length := by
  have hl := match_long (rf.taken n m).log m.ents m.index m.at_
  have ht := taken_log n m
  unfold rf.put
  split
  · exact ⟨Small.one rfl, one14, Nat.le_add_right _ _⟩
  · split
    · rename_i l at_ e
      rw [e] at hl
      rw [ht] at hl
      exact ⟨Small.one rfl, one14, hl⟩
    · exact ⟨Small.one rfl, one14, by dsimp only; rw [ht]; omega⟩
theorem vote_small (n : rf.Node) (m : rf.Msg) (h0 : 0 ≤ m.frm) (h7 : m.frm < 7) : Small (rf.vote n m).2 ∧ (rf.vote n m).2.length ≤ 14 ∧ (rf.vote n m).1.log.length ≤ n.log.length + 1 := by
  obtain ⟨K, hK⟩ : ∃ K : Nat, m.frm = (K : Int) := ⟨m.frm.toNat, by omega⟩
  unfold rf.vote
  rw [hK]
  split
  · exact ⟨voted_small n K (by omega), by have := voted_out n K (by omega); omega, voted_len n K (by omega)⟩
  · exact ⟨Small.nil, Nat.zero_le _, Nat.le_succ _⟩
theorem heard_small (n : rf.Node) (m : rf.Msg) : Small (rf.heard n m).2 ∧ (rf.heard n m).2.length ≤ 14 ∧ (rf.heard n m).1.log = n.log := by
  unfold rf.heard
  split
  · split
    · split
      · refine ⟨fun x hx => ?_, one14, by dsimp only; rw [tally_log]; rfl⟩
        rw [List.mem_singleton.1 hx]
        exact putMsg_small _ _
      · exact ⟨Small.nil, Nat.zero_le _, by dsimp only; rw [tally_log]; rfl⟩
    · refine ⟨fun x hx => ?_, one14, rfl⟩
      rw [List.mem_singleton.1 hx]
      exact putMsg_small _ _
  · exact ⟨Small.nil, Nat.zero_le _, rfl⟩
theorem ask_small (n : rf.Node) (m : rf.Msg) : Small (rf.ask n m).2 ∧ (rf.ask n m).2.length ≤ 14 ∧ (rf.ask n m).1.log = n.log := by
  unfold rf.ask
  split
  · exact ⟨Small.one rfl, one14, rfl⟩
  · exact ⟨Small.one rfl, one14, rfl⟩
theorem meant_frm {n : rf.Node} {m : rf.Msg} (h : rf.meant n m = true) : 0 ≤ m.frm ∧ m.frm < 7 := by
  unfold rf.meant at h
  simp only [Bool.and_eq_true, decide_eq_true_eq] at h
  omega
theorem step_small (n : rf.Node) (m : rf.Msg) : Small (rf.step n m).2 ∧ (rf.step n m).2.length ≤ 14 ∧ (rf.step n m).1.log.length ≤ n.log.length + m.ents.length + 1 := by
  have hf := fresh_log n m
  unfold rf.step
  split
  · rename_i hm
    obtain ⟨f0, f7⟩ := meant_frm hm
    split
    · obtain ⟨a, b, c⟩ := ask_small (rf.fresh n m) m
      exact ⟨a, b, by rw [c, hf]; omega⟩
    · split
      · obtain ⟨a, b, c⟩ := vote_small (rf.fresh n m) m f0 f7
        rw [hf] at c
        exact ⟨a, b, by omega⟩
      · split
        · obtain ⟨a, b, c⟩ := put_small (rf.fresh n m) m
          rw [hf] at c
          exact ⟨a, b, by omega⟩
        · obtain ⟨a, b, c⟩ := heard_small (rf.fresh n m) m
          exact ⟨a, b, by rw [c, hf]; omega⟩
  · exact ⟨Small.nil, Nat.zero_le _, by dsimp only; omega⟩
/-- a message that is not for it -/
theorem step_not {n : rf.Node} {m : rf.Msg} (h : rf.meant n m = false) : rf.step n m = (n, []) := by
  unfold rf.step
  rw [if_neg (by rw [h]; decide)]
/-- a message of a greater term -/
theorem step_falls {n : rf.Node} {m : rf.Msg} (h : rf.meant n m = true) (ht : n.term < m.term) : (rf.step n m).1.role = 0 ∧ (rf.step n m).1.term = m.term ∧ n.commit ≤ (rf.step n m).1.commit := by
  have e : rf.fresh n m = { n with role := 0, lead := -1, term := m.term, vote := -1 } := by
    unfold rf.fresh rf.back
    rw [if_pos ht, if_pos ht]
  unfold rf.step
  rw [if_pos h, e]
  split
  · unfold rf.ask
    split <;> exact ⟨rfl, rfl, Nat.le_refl _⟩
  · split
    · unfold rf.vote
      rw [if_neg (by dsimp only; omega)]
      exact ⟨rfl, rfl, Nat.le_refl _⟩
    · split
      · unfold rf.put
        rw [if_neg (by dsimp only; omega)]
        have e2 : ∀ x : rf.Node, x.term = m.term → x.commit = n.commit → (rf.taken x m).role = 0 ∧ (rf.taken x m).term = m.term ∧ (rf.taken x m).commit = n.commit := by
          intro x h1 h2
          unfold rf.taken rf.back
          rw [if_neg (by omega)]
          exact ⟨rfl, h1, h2⟩
        obtain ⟨t1, t2, t3⟩ := e2 { n with role := 0, lead := -1, term := m.term, vote := -1 } rfl rfl
        split
        · exact ⟨t1, t2, Nat.le_max_left _ _⟩
        · exact ⟨t1, t2, Nat.le_of_eq t3.symm⟩
      · unfold rf.heard
        rw [if_neg (by dsimp only; omega)]
        exact ⟨rfl, rfl, Nat.le_refl _⟩
end Go.Proofs.Ytkoidphhlfjlhaa
