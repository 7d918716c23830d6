/- The last entry, the term of one, whether a log is as new: walked, both ways. -/
import Derived.Test.YtkoidphhlfjlhaaRlText
import Derived.BigQuiet
import Derived.Deep.QuietTactic
import Derived.RegionTactic
namespace Go.Proofs.Ytkoidphhlfjlhaa
open Go Go.RowKit

def okEnts (ls : List rl.Ent) : Bool := decide (ls.length ≤ 40) && ls.all fun t => decide (t.2.length ≤ 200)
theorem getD_mem {ls : List rl.Ent} {k : Nat} (h : k < ls.length) : ls.getD k rl.e0 ∈ ls := by
  rw [List.getD_eq_getElem?_getD, List.getElem?_eq_getElem h]; exact List.getElem_mem _
theorem take_snoc {ls : List rl.Ent} {k : Nat} (h : k < ls.length) : ls.take (k + 1) = ls.take k ++ [ls.getD k rl.e0] := by
  rw [List.take_add_one, List.getD_eq_getElem?_getD, List.getElem?_eq_getElem h]; rfl
set_option maxHeartbeats 1000000 in
theorem bounded_any (v : Value) (ls : List rl.Ent) (w : World) (hv : Ents w v ls) (hf : Fine ls) :
    Calls Try.prog 5 #[v] w fun e w' => e = .returned (.bool (okEnts ls)) ∧ w = w' := by
  obtain ⟨A, c, rfl, hc, hcm, h0⟩ := hv
  obtain ⟨hl, hm⟩ := hf
  obtain ⟨n, hn⟩ : ∃ n, ls.length = n := ⟨_, rfl⟩
  have hok : okEnts ls = (decide (n ≤ 40) && ls.all fun t => decide (t.2.length ≤ 200)) := by unfold okEnts; rw [hn]
  have hin : ∀ k, k < n → ls.getD k rl.e0 ∈ ls := fun k h => getD_mem (by omega)
  have hsn : ∀ k, k < n → ls.take (k + 1) = ls.take k ++ [ls.getD k rl.e0] := fun k h => take_snoc (by omega)
  have htk : ls.take n = ls := List.take_of_length_le (by omega)
  rw [hn] at hl h0 hc ⊢
  unfold maxLen at hl
  have Hn := Lib.hid hn
  have H0 := Lib.hid h0
  have HM := Lib.hid hm
  have HOK := Lib.hid hok
  have HIN := Lib.hid hin
  have HSN := Lib.hid hsn
  have HTK := Lib.hid htk
  clear hn hm h0 hok hin hsn htk
  go_enter Try.func5, Try.ntmps5
  go_wp2
  go_loop [3] (fun i => ∃ k : Nat, k ≤ n ∧ i = .int .i64 k ∧ ((ls.take k).all fun t => decide (t.2.length ≤ 200)) = true) (fun i => n - (intOf i).toNat)
  case atStart => exact ⟨0, Nat.zero_le _, rfl, rfl⟩
  case round =>
    obtain ⟨k, hk, rfl, hall⟩ := hrel
    have HALL := Lib.hid hall
    clear hall
    by_cases hlt : k < n
    · obtain ⟨b, o, rfl, hA⟩ := H0.out (by omega)
      obtain ⟨c0, c1⟩ := hA k (by rw [Hn.out]; exact hlt)
      clear hA
      have hmem := HIN.out k hlt
      have hs := HSN.out k hlt
      obtain ⟨t, hte⟩ : ∃ t, ls.getD k rl.e0 = t := ⟨_, rfl⟩
      rw [hte] at c0 c1 hmem hs
      have htm := (HM.out t hmem).2
      have hsz : (crcm.mk t.2).size ≤ 9223372036854775807 := by rw [crcm.mk_size]; unfold maxLen at htm; omega
      have HS := Lib.hid hs
      have HMEM := Lib.hid hmem
      clear hte hs hmem
      by_cases hlong : 200 < t.2.length
      · have hlong2 : 200 < (crcm.mk t.2).size := by rw [crcm.mk_size]; exact hlong
        have hno : (ls.all fun t => decide (t.2.length ≤ 200)) = false := by
          rw [List.all_eq_false]
          exact ⟨t, HMEM.out, by simp; exact hlong⟩
        have HNO := Lib.hid hno
        clear hno
        go_wp2
        go_ret
        exact ⟨by rw [HOK.out, HNO.out, Bool.and_false]; rfl, rfl⟩
      · have hshort : (crcm.mk t.2).size ≤ 200 := by rw [crcm.mk_size]; omega
        have hyes : decide (t.2.length ≤ 200) = true := by rw [decide_eq_true_iff]; omega
        have Hyes := Lib.hid hyes
        clear hyes
        go_wp2
        go_round
        case rel => exact ⟨k + 1, by omega, by go_num, by rw [HS.out, List.all_append, HALL.out, List.all_cons, Hyes.out]; rfl⟩
        case measure => simp [intOf]; omega
    · obtain rfl : k = n := by omega
      have hall := HALL.out
      rw [HTK.out] at hall
      have HALL2 := Lib.hid hall
      clear hall
      go_wp2
      go_ret
      refine ⟨ret_of ?_, rfl⟩
      rw [HOK.out, HALL2.out, Bool.and_true]
      have : (k : Int) ≤ 40 ↔ k ≤ 40 := by omega
      simp [this]

theorem wrap_u64_in {n : Int} (h0 : 0 ≤ n) (h1 : n < 18446744073709551616) : IntKind.u64.wrap n = n := by simp [IntKind.wrap, IntKind.bits, IntKind.signed]; omega
/-- a state's value -/
def stV (T : Nat) (V : Int) (v : Value) : Value := .agg #[.int .u64 (T : Int), .int .i64 V, v]
theorem box_cells (w : World) (a b c : Value) (t : TypeId) : (w.alloc (.cells #[a, b, c] t)).cell? ⟨w.heap.size, 0, none⟩ = some a ∧ (w.alloc (.cells #[a, b, c] t)).cell? ⟨w.heap.size, 1, none⟩ = some b ∧ (w.alloc (.cells #[a, b, c] t)).cell? ⟨w.heap.size, 2, none⟩ = some c := by
  have h := heap_alloc_new w (.cells #[a, b, c] t)
  exact ⟨cell_of_row _ _ 0 _ _ _ h, cell_of_row _ _ 1 _ _ _ h, cell_of_row _ _ 2 _ _ _ h⟩
theorem termAt_any (T : Nat) (V : Int) (v : Value) (ls : List rl.Ent) (i : Nat) (w : World) (hv : Ents w v ls) (hl : ls.length ≤ 1000000) (hi : i < 18446744073709551616) :
    Calls Try.prog 28 #[stV T V v, .int .u64 (i : Int)] w fun e w' => e = .returned (.tuple #[.int .u64 ((rl.termAt ls i).1 : Nat), .bool (rl.termAt ls i).2]) ∧ Below w.heap.size w w' := by
  obtain ⟨A, c, rfl, hc, hcm, h0⟩ := hv
  obtain ⟨n, hn⟩ : ∃ n, ls.length = n := ⟨_, rfl⟩
  have Hn := Lib.hid hn
  rw [hn] at hl h0 hc ⊢
  clear hn
  unfold stV
  have hb : Below w.heap.size w (w.alloc (.cells #[.int .u64 (T : Int), .int .i64 V, .slice A n c] 25)) := (Below.refl _ _).alloc (Nat.le_refl _) _
  have Hb := Lib.hid hb
  obtain ⟨b0, b1, b2⟩ := box_cells w (.int .u64 (T : Int)) (.int .i64 V) (.slice A n c) 25
  by_cases hz : i = 0
  · subst hz
    have hfin : rl.termAt ls 0 = (0, true) := rfl
    rw [hfin]
    clear hfin h0
    go_enter Try.func28, Try.ntmps28
    go_wp2
    go_ret2
    exact ⟨rfl, hb⟩
  · by_cases hlt : n < i
    · have hfin : rl.termAt ls i = (0, false) := by unfold rl.termAt; rw [if_neg hz, if_pos (by rw [Hn.out]; exact hlt)]
      rw [hfin]
      have hzz : ((i : Int) == 0) = false := by rw [beq_eq_false_iff_ne]; omega
      clear hfin h0
      go_enter Try.func28, Try.ntmps28
      go_wp2
      go_ret2
      exact ⟨rfl, hb⟩
    · obtain ⟨k, rfl⟩ : ∃ k, i = k + 1 := ⟨i - 1, by omega⟩
      have hfin : rl.termAt ls (k + 1) = ((ls.getD k rl.e0).1, true) := by unfold rl.termAt; rw [if_neg hz, if_neg (by rw [Hn.out]; exact hlt)]; rfl
      rw [hfin]
      obtain ⟨b, o, rfl, hA⟩ := h0 (by omega)
      obtain ⟨c0, c1⟩ := hA k (by rw [Hn.out]; omega)
      have c0' := cell_later hb c0
      have hzz : (((k + 1 : Nat) : Int) == 0) = false := by rw [beq_eq_false_iff_ne]; omega
      have hk1 : ((k + 1 : Nat) : Int) - 1 = (k : Int) := by omega
      have hk2 : IntKind.u64.wrap (((k + 1 : Nat) : Int) - 1) = (k : Int) := by rw [hk1]; exact wrap_u64_in (by omega) (by omega)
      clear hfin hA h0 c0 c1 hb
      obtain ⟨t, ht⟩ : ∃ t, ls.getD k rl.e0 = t := ⟨_, rfl⟩
      rw [ht] at c0' ⊢
      clear ht
      go_enter Try.func28, Try.ntmps28
      go_wp2
      go_ret2
      exact ⟨rfl, Hb.out⟩

theorem last_any (T : Nat) (V : Int) (v : Value) (ls : List rl.Ent) (w : World) (hv : Ents w v ls) (hl : ls.length ≤ 1000000) :
    Calls Try.prog 32 #[stV T V v] w fun e w' => e = .returned (.tuple #[.int .u64 (ls.length : Nat), .int .u64 (rl.lastTerm ls : Nat)]) ∧ Below w.heap.size w w' := by
  obtain ⟨A, c, rfl, hc, hcm, h0⟩ := hv
  obtain ⟨n, hn⟩ : ∃ n, ls.length = n := ⟨_, rfl⟩
  have Hn := Lib.hid hn
  rw [hn] at hl h0 hc ⊢
  clear hn
  unfold stV
  have hb : Below w.heap.size w (w.alloc (.cells #[.int .u64 (T : Int), .int .i64 V, .slice A n c] 25)) := (Below.refl _ _).alloc (Nat.le_refl _) _
  have Hb := Lib.hid hb
  obtain ⟨b0, b1, b2⟩ := box_cells w (.int .u64 (T : Int)) (.int .i64 V) (.slice A n c) 25
  by_cases hz : n = 0
  · subst hz
    have hfin : rl.lastTerm ls = 0 := by unfold rl.lastTerm; rw [if_pos Hn.out]
    rw [hfin]
    clear hfin h0
    go_enter Try.func32, Try.ntmps32
    go_wp2
    go_ret2
    exact ⟨rfl, hb⟩
  · obtain ⟨k, hk⟩ : ∃ k, n = k + 1 := ⟨n - 1, by omega⟩
    have hfin : rl.lastTerm ls = (ls.getD k rl.e0).1 := by unfold rl.lastTerm; rw [Hn.out, if_neg hz, hk]; rfl
    rw [hfin]
    obtain ⟨b, o, rfl, hA⟩ := h0 (by omega)
    obtain ⟨c0, c1⟩ := hA k (by rw [Hn.out]; omega)
    have c0' := cell_later hb c0
    have hzz : ((n : Int) == 0) = false := by rw [beq_eq_false_iff_ne]; omega
    have hk1 : (n : Int) - 1 = (k : Int) := by omega
    have hk2 : IntKind.i64.wrap ((n : Int) - 1) = (k : Int) := by rw [hk1]; simp [IntKind.wrap, IntKind.bits, IntKind.signed]; omega
    have hkn : (k : Int) < (n : Int) := by omega
    clear hfin hA h0 c0 c1 hb hk
    obtain ⟨t, ht⟩ : ∃ t, ls.getD k rl.e0 = t := ⟨_, rfl⟩
    rw [ht] at c0' ⊢
    clear ht
    go_enter Try.func32, Try.ntmps32
    go_wp2
    go_quiet (fail)
    go_wp2
    go_ret2
    exact ⟨rfl, below_drewN Hb.out _⟩
end Go.Proofs.Ytkoidphhlfjlhaa
