/- The document's asking; whether a log is as new, both ways. -/
import Derived.Test.YtkoidphhlfjlhaaRfAsk
namespace Go.Proofs.Ytkoidphhlfjlhaa
open Go Go.RowKit

def cmpV (a b : Nat) : Int := if a < b then -1 else if b < a then 1 else 0
theorem isnan_any (a : Nat) (w : World) : Calls Try.prog 46 #[.int .u64 (a : Int)] w fun e w' => e = .returned (.bool false) ∧ w = w' := by
  have h : ((a : Int) != (a : Int)) = false := by simp
  go_enter Try.func46, Try.ntmps46
  go_wp2
  go_ret
  exact ⟨rfl, rfl⟩
theorem compare_any (a b : Nat) (w : World) : Calls Try.prog 42 #[.int .u64 (a : Int), .int .u64 (b : Int)] w fun e w' => e = .returned (.int .i64 (cmpV a b)) ∧ w = w' := by
  unfold cmpV
  by_cases h1 : a < b
  · rw [if_pos h1]
    go_enter Try.func42, Try.ntmps42
    go_wp2_with (go_at_call 46; refine (isnan_any _ _).mono ?_; rintro e w1 ⟨rfl, rfl⟩)
    go_ret
    exact ⟨rfl, rfl⟩
  · rw [if_neg h1]
    by_cases h2 : b < a
    · rw [if_pos h2]
      go_enter Try.func42, Try.ntmps42
      go_wp2_with (go_at_call 46; refine (isnan_any _ _).mono ?_; rintro e w1 ⟨rfl, rfl⟩)
      go_ret
      exact ⟨rfl, rfl⟩
    · rw [if_neg h2]
      go_enter Try.func42, Try.ntmps42
      go_wp2_with (go_at_call 46; refine (isnan_any _ _).mono ?_; rintro e w1 ⟨rfl, rfl⟩)
      go_ret
      exact ⟨rfl, rfl⟩
theorem or_any (x y : Int) (g : Nat) (w : World) (h0 : w.cell? ⟨g, 0, none⟩ = some (.int .i64 x)) (h1 : w.cell? ⟨g, 1, none⟩ = some (.int .i64 y)) :
    Calls Try.prog 41 #[.slice (some ⟨g, 0, none⟩) 2 2] w fun e w' => e = .returned (.int .i64 (if x = 0 then y else x)) ∧ w = w' := by
  by_cases hx : x = 0
  · subst hx
    rw [if_pos rfl]
    by_cases hy : y = 0
    · subst hy
      go_enter Try.func41, Try.ntmps41
      go_wp2
      refine wp_loop_rounds 3 ?_
      rw [rounds_succ]
      go_wp2
      rw [rounds_succ]
      go_wp2
      rw [rounds_succ]
      go_wp2
      go_ret
      exact ⟨rfl, rfl⟩
    · have hy' : (y != 0) = true := by rw [bne_iff_ne]; exact hy
      go_enter Try.func41, Try.ntmps41
      go_wp2
      refine wp_loop_rounds 3 ?_
      rw [rounds_succ]
      go_wp2
      rw [rounds_succ]
      go_wp2
      go_ret
      exact ⟨rfl, rfl⟩
  · rw [if_neg hx]
    have hx' : (x != 0) = true := by rw [bne_iff_ne]; exact hx
    go_enter Try.func41, Try.ntmps41
    go_wp2
    refine wp_loop_rounds 3 ?_
    rw [rounds_succ]
    go_wp2
    go_ret
    exact ⟨rfl, rfl⟩
theorem box2_cells (w : World) (a b : Value) (t : TypeId) : (w.alloc (.cells #[a, b] t)).cell? ⟨w.heap.size, 0, none⟩ = some a ∧ (w.alloc (.cells #[a, b] t)).cell? ⟨w.heap.size, 1, none⟩ = some b := by
  have h := heap_alloc_new w (.cells #[a, b] t)
  exact ⟨cell_of_row _ _ 0 _ _ _ h, cell_of_row _ _ 1 _ _ _ h⟩
theorem newer_cmp (ls : List rl.Ent) (term i : Nat) : decide ((0 : Int) ≤ if cmpV term (rl.lastTerm ls) = 0 then cmpV i ls.length else cmpV term (rl.lastTerm ls)) = rl.newer ls term i := by
  unfold rl.newer cmpV
  obtain ⟨x, hx⟩ : ∃ x, rl.lastTerm ls = x := ⟨_, rfl⟩
  rw [hx]
  by_cases h1 : term < x
  · have a1 : ¬ x < term := by omega
    have a2 : ¬ term = x := by omega
    simp [h1, a1, a2]
  · by_cases h2 : x < term
    · simp [h1, h2]
    · have a2 : term = x := by omega
      subst a2
      simp
      by_cases h3 : i < ls.length
      · have : ¬ ls.length ≤ i := by omega
        simp [h3, this]
      · by_cases h4 : ls.length < i
        · have : ls.length ≤ i := by omega
          simp [h3, h4, this]
        · have : ls.length ≤ i := by omega
          simp [h3, h4, this]
theorem newer_any (T : Nat) (V : Int) (v : Value) (ls : List rl.Ent) (term i : Nat) (w : World) (hv : Ents w v ls) (hl : ls.length ≤ 1000000) :
    Calls Try.prog 35 #[stV T V v, .int .u64 (term : Int), .int .u64 (i : Int)] w fun e w' => e = .returned (.bool (rl.newer ls term i)) ∧ Below w.heap.size w w' := by
  have hfin := newer_cmp ls term i
  obtain ⟨b0, b1, b2⟩ := box_cells w (.int .u64 (T : Int)) (.int .i64 V) v 25
  have hb : Below w.heap.size w (w.alloc (.cells #[.int .u64 (T : Int), .int .i64 V, v] 25)) := (Below.refl _ _).alloc (Nat.le_refl _) _
  have hla := last_any T V v ls _ (hv.below hb) hl
  have Hfin := Lib.hid hfin
  have HLA := Lib.hid hla
  have Hb := Lib.hid hb
  have Hv := Lib.hid hv
  clear hfin hla hv
  unfold stV at *
  go_enter Try.func35, Try.ntmps35
  go_wp2_with fail
  refine HLA.out.mono ?_
  rintro e w1 ⟨rfl, hb1⟩
  have HB1 := Lib.hid (Hb.out.trans (hb1.mono Hb.out.size))
  clear hb1
  go_wp2_with fail
  refine (compare_any _ _ _).mono ?_
  rintro e w2 ⟨rfl, rfl⟩
  go_wp2_with fail
  refine (compare_any _ _ _).mono ?_
  rintro e w2 ⟨rfl, rfl⟩
  have hpos := Hfin.out
  obtain ⟨x, hx⟩ : ∃ x, cmpV term (rl.lastTerm ls) = x := ⟨_, rfl⟩
  obtain ⟨y, hy⟩ : ∃ y, cmpV i ls.length = y := ⟨_, rfl⟩
  rw [hx, hy] at hpos
  simp only [hx, hy]
  obtain ⟨c0, c1⟩ := box2_cells w1 (.int .i64 x) (.int .i64 y) 3
  have hor := or_any x y _ _ c0 c1
  have HOR := Lib.hid hor
  have HP := Lib.hid hpos
  clear hx hy hor hpos
  go_wp2_with fail
  refine HOR.out.mono ?_
  rintro e w3 ⟨rfl, rfl⟩
  obtain ⟨z, hz⟩ : ∃ z, (if x = 0 then y else x) = z := ⟨_, rfl⟩
  have hp2 := HP.out
  rw [hz] at hp2 ⊢
  clear hz
  have HP2 := Lib.hid hp2
  clear hp2
  go_wp2
  go_ret
  exact ⟨ret_of (by rw [← HP2.out]; rfl), HB1.out.alloc (by have := HB1.out.size; simpa using this) _⟩

end Go.Proofs.Ytkoidphhlfjlhaa
