/- The document's asking; whether a log is as new, both ways. -/
import Derived.Test.YtgaamknkigdoeaaRlAsk
namespace Go.Proofs.Ytgaamknkigdoeaa
open Go Go.RowKit

theorem rtermAt_any (T : Nat) (V : Int) (v : Value) (ls : List rl.Ent) (i : Nat) (w : World) (hv : Ents w v ls) (hl : ls.length ≤ 1000000) (hi : i < 18446744073709551616) :
    Calls Try.prog 16 #[stV T V v, .int .u64 (i : Int)] w fun e w' => e = .returned (.tuple #[.int .u64 ((rl.termAt ls i).1 : Nat), .bool (rl.termAt ls i).2]) ∧ Below w.heap.size w w' := by
  obtain ⟨A, c, rfl, hc, hcm, h0⟩ := hv
  obtain ⟨n, hn⟩ : ∃ n, ls.length = n := ⟨_, rfl⟩
  have Hn := Lib.hid hn
  rw [hn] at hl h0 hc ⊢
  clear hn
  unfold stV
  have hb : Below w.heap.size w (w.alloc (.cells #[.int .u64 (T : Int), .int .i64 V, .slice A n c] 38)) := (Below.refl _ _).alloc (Nat.le_refl _) _
  have Hb := Lib.hid hb
  obtain ⟨b0, b1, b2⟩ := box_cells w (.int .u64 (T : Int)) (.int .i64 V) (.slice A n c) 38
  by_cases hz : i = 0
  · subst hz
    have hfin : rl.termAt ls 0 = (0, true) := rfl
    rw [hfin]
    clear hfin h0
    go_enter Try.func16, Try.ntmps16
    go_wp2
    go_ret2
    exact ⟨rfl, hb⟩
  · by_cases hlt : n < i
    · have hfin : rl.termAt ls i = (0, false) := by unfold rl.termAt; rw [if_neg hz, if_pos (by rw [Hn.out]; exact hlt)]
      rw [hfin]
      have hzz : ((i : Int) == 0) = false := by rw [beq_eq_false_iff_ne]; omega
      clear hfin h0
      go_enter Try.func16, Try.ntmps16
      go_wp2
      go_ret2
      exact ⟨rfl, hb⟩
    · obtain ⟨k, rfl⟩ : ∃ k, i = k + 1 := ⟨i - 1, by omega⟩
      have hfin : rl.termAt ls (k + 1) = ((ls.getD k rl.e0).1, true) := by unfold rl.termAt; rw [if_neg hz, if_neg (by rw [Hn.out]; exact hlt)]; rfl
      rw [hfin]
      obtain ⟨b, o, rfl, hA⟩ := h0 (by omega)
      obtain ⟨c0, c1⟩ := hA k (by rw [Hn.out]; omega)
      have c0' := cell_later hb c0
      have hzz : (((k + 1 : Nat) : Int) == 0) = false := by rw [beq_eq_false_iff_ne]; omega
      have hk1 : ((k + 1 : Nat) : Int) - 1 = (k : Int) := by omega
      have hk2 : IntKind.u64.wrap (((k + 1 : Nat) : Int) - 1) = (k : Int) := by rw [hk1]; exact wrap_u64_in (by omega) (by omega)
      clear hfin hA h0 c0 c1 hb
      obtain ⟨t, ht⟩ : ∃ t, ls.getD k rl.e0 = t := ⟨_, rfl⟩
      rw [ht] at c0' ⊢
      clear ht
      go_enter Try.func16, Try.ntmps16
      go_wp2
      go_ret2
      exact ⟨rfl, Hb.out⟩

theorem rlast_any (T : Nat) (V : Int) (v : Value) (ls : List rl.Ent) (w : World) (hv : Ents w v ls) (hl : ls.length ≤ 1000000) :
    Calls Try.prog 15 #[stV T V v] w fun e w' => e = .returned (.tuple #[.int .u64 (ls.length : Nat), .int .u64 (rl.lastTerm ls : Nat)]) ∧ Below w.heap.size w w' := by
  obtain ⟨A, c, rfl, hc, hcm, h0⟩ := hv
  obtain ⟨n, hn⟩ : ∃ n, ls.length = n := ⟨_, rfl⟩
  have Hn := Lib.hid hn
  rw [hn] at hl h0 hc ⊢
  clear hn
  unfold stV
  have hb : Below w.heap.size w (w.alloc (.cells #[.int .u64 (T : Int), .int .i64 V, .slice A n c] 38)) := (Below.refl _ _).alloc (Nat.le_refl _) _
  have Hb := Lib.hid hb
  obtain ⟨b0, b1, b2⟩ := box_cells w (.int .u64 (T : Int)) (.int .i64 V) (.slice A n c) 38
  by_cases hz : n = 0
  · subst hz
    have hfin : rl.lastTerm ls = 0 := by unfold rl.lastTerm; rw [if_pos Hn.out]
    rw [hfin]
    clear hfin h0
    go_enter Try.func15, Try.ntmps15
    go_wp2
    go_ret2
    exact ⟨rfl, hb⟩
  · obtain ⟨k, hk⟩ : ∃ k, n = k + 1 := ⟨n - 1, by omega⟩
    have hfin : rl.lastTerm ls = (ls.getD k rl.e0).1 := by unfold rl.lastTerm; rw [Hn.out, if_neg hz, hk]; rfl
    rw [hfin]
    obtain ⟨b, o, rfl, hA⟩ := h0 (by omega)
    obtain ⟨c0, c1⟩ := hA k (by rw [Hn.out]; omega)
    have c0' := cell_later hb c0
    have hzz : ((n : Int) == 0) = false := by rw [beq_eq_false_iff_ne]; omega
    have hk1 : (n : Int) - 1 = (k : Int) := by omega
    have hk2 : IntKind.i64.wrap ((n : Int) - 1) = (k : Int) := by rw [hk1]; simp [IntKind.wrap, IntKind.bits, IntKind.signed]; omega
    have hkn : (k : Int) < (n : Int) := by omega
    clear hfin hA h0 c0 c1 hb hk
    obtain ⟨t, ht⟩ : ∃ t, ls.getD k rl.e0 = t := ⟨_, rfl⟩
    rw [ht] at c0' ⊢
    clear ht
    go_enter Try.func15, Try.ntmps15
    go_wp2
    go_quiet (fail)
    go_wp2
    go_ret2
    exact ⟨rfl, below_drewN Hb.out _⟩

def cmpV (a b : Nat) : Int := if a < b then -1 else if b < a then 1 else 0
theorem isnan_any (a : Nat) (w : World) : Calls Try.prog 36 #[.int .u64 (a : Int)] w fun e w' => e = .returned (.bool false) ∧ w = w' := by
  have h : ((a : Int) != (a : Int)) = false := by simp
  go_enter Try.func36, Try.ntmps36
  go_wp2
  go_ret
  exact ⟨rfl, rfl⟩
theorem compare_any (a b : Nat) (w : World) : Calls Try.prog 28 #[.int .u64 (a : Int), .int .u64 (b : Int)] w fun e w' => e = .returned (.int .i64 (cmpV a b)) ∧ w = w' := by
  unfold cmpV
  by_cases h1 : a < b
  · rw [if_pos h1]
    go_enter Try.func28, Try.ntmps28
    go_wp2_with (go_at_call 36; refine (isnan_any _ _).mono ?_; rintro e w1 ⟨rfl, rfl⟩)
    go_ret
    exact ⟨rfl, rfl⟩
  · rw [if_neg h1]
    by_cases h2 : b < a
    · rw [if_pos h2]
      go_enter Try.func28, Try.ntmps28
      go_wp2_with (go_at_call 36; refine (isnan_any _ _).mono ?_; rintro e w1 ⟨rfl, rfl⟩)
      go_ret
      exact ⟨rfl, rfl⟩
    · rw [if_neg h2]
      go_enter Try.func28, Try.ntmps28
      go_wp2_with (go_at_call 36; refine (isnan_any _ _).mono ?_; rintro e w1 ⟨rfl, rfl⟩)
      go_ret
      exact ⟨rfl, rfl⟩
theorem or_any (x y : Int) (g : Nat) (w : World) (h0 : w.cell? ⟨g, 0, none⟩ = some (.int .i64 x)) (h1 : w.cell? ⟨g, 1, none⟩ = some (.int .i64 y)) :
    Calls Try.prog 27 #[.slice (some ⟨g, 0, none⟩) 2 2] w fun e w' => e = .returned (.int .i64 (if x = 0 then y else x)) ∧ w = w' := by
  by_cases hx : x = 0
  · subst hx
    rw [if_pos rfl]
    by_cases hy : y = 0
    · subst hy
      go_enter Try.func27, Try.ntmps27
      go_wp2
      refine wp_loop_rounds 3 ?_
      rw [rounds_succ]
      go_wp2
      rw [rounds_succ]
      go_wp2
      rw [rounds_succ]
      go_wp2
      go_ret
      exact ⟨rfl, rfl⟩
    · have hy' : (y != 0) = true := by rw [bne_iff_ne]; exact hy
      go_enter Try.func27, Try.ntmps27
      go_wp2
      refine wp_loop_rounds 3 ?_
      rw [rounds_succ]
      go_wp2
      rw [rounds_succ]
      go_wp2
      go_ret
      exact ⟨rfl, rfl⟩
  · rw [if_neg hx]
    have hx' : (x != 0) = true := by rw [bne_iff_ne]; exact hx
    go_enter Try.func27, Try.ntmps27
    go_wp2
    refine wp_loop_rounds 3 ?_
    rw [rounds_succ]
    go_wp2
    go_ret
    exact ⟨rfl, rfl⟩
theorem box2_cells (w : World) (a b : Value) (t : TypeId) : (w.alloc (.cells #[a, b] t)).cell? ⟨w.heap.size, 0, none⟩ = some a ∧ (w.alloc (.cells #[a, b] t)).cell? ⟨w.heap.size, 1, none⟩ = some b := by
  have h := heap_alloc_new w (.cells #[a, b] t)
  exact ⟨cell_of_row _ _ 0 _ _ _ h, cell_of_row _ _ 1 _ _ _ h⟩
theorem newer_cmp (ls : List rl.Ent) (term i : Nat) : decide ((0 : Int) ≤ if cmpV term (rl.lastTerm ls) = 0 then cmpV i ls.length else cmpV term (rl.lastTerm ls)) = rl.newer ls term i := by
  unfold rl.newer cmpV
  obtain ⟨x, hx⟩ : ∃ x, rl.lastTerm ls = x := ⟨_, rfl⟩
  rw [hx]
  by_cases h1 : term < x
  · have a1 : ¬ x < term := by omega
    have a2 : ¬ term = x := by omega
    simp [h1, a1, a2]
  · by_cases h2 : x < term
    · simp [h1, h2]
    · have a2 : term = x := by omega
      subst a2
      simp
      by_cases h3 : i < ls.length
      · have : ¬ ls.length ≤ i := by omega
        simp [h3, this]
      · by_cases h4 : ls.length < i
        · have : ls.length ≤ i := by omega
          simp [h3, h4, this]
        · have : ls.length ≤ i := by omega
          simp [h3, h4, this]
theorem newer_any (T : Nat) (V : Int) (v : Value) (ls : List rl.Ent) (term i : Nat) (w : World) (hv : Ents w v ls) (hl : ls.length ≤ 1000000) :
    Calls Try.prog 18 #[stV T V v, .int .u64 (term : Int), .int .u64 (i : Int)] w fun e w' => e = .returned (.bool (rl.newer ls term i)) ∧ Below w.heap.size w w' := by
  have hfin := newer_cmp ls term i
  obtain ⟨b0, b1, b2⟩ := box_cells w (.int .u64 (T : Int)) (.int .i64 V) v 25
  have hb : Below w.heap.size w (w.alloc (.cells #[.int .u64 (T : Int), .int .i64 V, v] 25)) := (Below.refl _ _).alloc (Nat.le_refl _) _
  have hla := last_any T V v ls _ (hv.below hb) hl
  have Hfin := Lib.hid hfin
  have HLA := Lib.hid hla
  have Hb := Lib.hid hb
  have Hv := Lib.hid hv
  clear hfin hla hv
  unfold stV at *
  go_enter Try.func18, Try.ntmps18
  go_wp2_with fail
  refine HLA.out.mono ?_
  rintro e w1 ⟨rfl, hb1⟩
  have HB1 := Lib.hid (Hb.out.trans (hb1.mono Hb.out.size))
  clear hb1
  go_wp2_with fail
  refine (compare_any _ _ _).mono ?_
  rintro e w2 ⟨rfl, rfl⟩
  go_wp2_with fail
  refine (compare_any _ _ _).mono ?_
  rintro e w2 ⟨rfl, rfl⟩
  have hpos := Hfin.out
  obtain ⟨x, hx⟩ : ∃ x, cmpV term (rl.lastTerm ls) = x := ⟨_, rfl⟩
  obtain ⟨y, hy⟩ : ∃ y, cmpV i ls.length = y := ⟨_, rfl⟩
  rw [hx, hy] at hpos
  simp only [hx, hy]
  obtain ⟨c0, c1⟩ := box2_cells w1 (.int .i64 x) (.int .i64 y) 3
  have hor := or_any x y _ _ c0 c1
  have HOR := Lib.hid hor
  have HP := Lib.hid hpos
  clear hx hy hor hpos
  go_wp2_with fail
  refine HOR.out.mono ?_
  rintro e w3 ⟨rfl, rfl⟩
  obtain ⟨z, hz⟩ : ∃ z, (if x = 0 then y else x) = z := ⟨_, rfl⟩
  have hp2 := HP.out
  rw [hz] at hp2 ⊢
  clear hz
  have HP2 := Lib.hid hp2
  clear hp2
  go_wp2
  go_ret
  exact ⟨ret_of (by rw [← HP2.out]; rfl), HB1.out.alloc (by have := HB1.out.size; simpa using this) _⟩

theorem rnewer_any (T : Nat) (V : Int) (v : Value) (ls : List rl.Ent) (term i : Nat) (w : World) (hv : Ents w v ls) (hl : ls.length ≤ 1000000) :
    Calls Try.prog 19 #[stV T V v, .int .u64 (term : Int), .int .u64 (i : Int)] w fun e w' => e = .returned (.bool (rl.newer ls term i)) ∧ Below w.heap.size w w' := by
  obtain ⟨b0, b1, b2⟩ := box_cells w (.int .u64 (T : Int)) (.int .i64 V) v 38
  have hb : Below w.heap.size w (w.alloc (.cells #[.int .u64 (T : Int), .int .i64 V, v] 38)) := (Below.refl _ _).alloc (Nat.le_refl _) _
  have hla := rlast_any T V v ls _ (hv.below hb) hl
  have hfin : rl.newer ls term i = (decide (rl.lastTerm ls < term) || (decide (term = rl.lastTerm ls) && decide (ls.length ≤ i))) := rfl
  have Hfin := Lib.hid hfin
  have HLA := Lib.hid hla
  have Hb := Lib.hid hb
  have Hv := Lib.hid hv
  clear hla hv hfin
  unfold stV at *
  go_enter Try.func19, Try.ntmps19
  go_wp2_with fail
  refine HLA.out.mono ?_
  rintro e w1 ⟨rfl, hb1⟩
  have HB1 := Lib.hid (Hb.out.trans (hb1.mono Hb.out.size))
  clear hb1
  obtain ⟨x, hx⟩ : ∃ x, rl.lastTerm ls = x := ⟨_, rfl⟩
  obtain ⟨n, hn⟩ : ∃ n, ls.length = n := ⟨_, rfl⟩
  have hf := Hfin.out
  rw [hx, hn] at hf ⊢
  have HF := Lib.hid hf
  clear hx hn hf Hfin HLA Hv
  by_cases h1 : x < term
  · go_wp2
    go_ret
    exact ⟨ret_of (by rw [HF.out]; simp [h1]), HB1.out⟩
  · by_cases h2 : term = x
    · subst h2
      have e1 : ((term : Int) == (term : Int)) = true := by simp
      by_cases h3 : n ≤ i
      · go_wp2
        go_ret
        exact ⟨ret_of (by rw [HF.out]; simp [h3]), HB1.out⟩
      · go_wp2
        go_ret
        exact ⟨ret_of (by rw [HF.out]; simp [h3]), HB1.out⟩
    · have e1 : ((term : Int) == (x : Int)) = false := by rw [beq_eq_false_iff_ne]; omega
      go_wp2
      go_ret
      exact ⟨ret_of (by rw [HF.out]; simp [h1, h2]), HB1.out⟩
end Go.Proofs.Ytgaamknkigdoeaa
