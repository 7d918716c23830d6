/- bounded: whether an act's texts are few and short. -/
import Derived.Test.YtdnoeahhidmkbaaDoorWlUse
namespace Go.Proofs.YtdnoeahhidmkbaaDoor
open Go Go.RowKit
set_option maxRecDepth 100000

namespace wl
def okTexts (ls : List (List UInt8)) : Bool := ls.all (fun t => decide (t.length ≤ 200)) && decide (ls.length ≤ 10)
theorem okTexts_iff {ls : List (List UInt8)} : okTexts ls = true ↔ (∀ t ∈ ls, t.length ≤ 200) ∧ ls.length ≤ 10 := by
  unfold okTexts
  rw [Bool.and_eq_true, List.all_eq_true, decide_eq_true_iff]
  constructor
  · rintro ⟨h1, h2⟩; exact ⟨fun t ht => of_decide_eq_true (h1 t ht), h2⟩
  · rintro ⟨h1, h2⟩; exact ⟨fun t ht => decide_eq_true (h1 t ht), h2⟩
end wl
set_option maxHeartbeats 4000000 in
theorem wal_bounded (K N P : Int) (v : Value) (ls : List (List UInt8)) (w : World) (hv : Texts w v ls) :
    Calls Tryd.prog 14 #[.agg #[.int .i64 K, .int .i64 N, .int .i64 P, v]] w fun e w' => e = .returned (.bool (wl.okTexts ls)) ∧ Below w.heap.size w w' := by
  obtain ⟨hv, hl, hm, _⟩ := hv
  obtain ⟨W, hW⟩ : ∃ W, w.alloc (.cells #[.int .i64 K, .int .i64 N, .int .i64 P, v] 36) = W := ⟨_, rfl⟩
  have hb : Below w.heap.size w W := by rw [← hW]; exact (Below.refl _ w).alloc (Nat.le_refl _) _
  have hx : Vb W w.heap.size [.int .i64 K, .int .i64 N, .int .i64 P, v] 36 := by rw [← hW]; exact Vb.new w _ _
  have q3 := hx.cell 3 _ rfl
  obtain ⟨A, c, rfl, hcells⟩ := hv.below hb
  have hsn : ∀ k, k < ls.length → ls.take (k + 1) = ls.take k ++ [ls.getD k []] := fun k h => by rw [List.take_add_one, List.getD_eq_getElem?_getD, List.getElem?_eq_getElem h]; rfl
  have hin : ∀ k, k < ls.length → ls.getD k [] ∈ ls := fun k h => by rw [List.getD_eq_getElem?_getD, List.getElem?_eq_getElem h]; exact List.getElem_mem h
  have hokk : wl.okTexts ls = (ls.all (fun t => decide (t.length ≤ 200)) && decide (ls.length ≤ 10)) := rfl
  obtain ⟨n, hn⟩ : ∃ n, ls.length = n := ⟨_, rfl⟩
  have htk : ls.take n = ls := by rw [← hn]; exact List.take_length
  rw [hn] at hcells hsn hin hl hokk q3 hW ⊢
  unfold maxLen at hl
  have HC := Lib.hid hcells
  have HS := Lib.hid hsn
  have HI := Lib.hid hin
  have HO := Lib.hid hokk
  have HTK := Lib.hid htk
  have HM := Lib.hid hm
  clear hcells hsn hin hokk htk hn hm hx hv
  go_enter Tryd.func14, Tryd.ntmps14
  go_wp2_with fail
  go_loop [3] (fun i => ∃ k : Nat, k ≤ n ∧ i = .int .i64 k ∧ (ls.take k).all (fun t => decide (t.length ≤ 200)) = true) (fun i => n - (intOf i).toNat)
  case atStart => exact ⟨0, Nat.zero_le _, rfl, rfl⟩
  case round =>
    obtain ⟨k, hk, rfl, hall⟩ := hrel
    have HALL := Lib.hid hall
    clear hall
    by_cases hlt : k < n
    · obtain ⟨ad, rfl, c0⟩ := HC.out k hlt
      have hs := HS.out k hlt
      have hmem := HI.out k hlt
      obtain ⟨t, ht⟩ : ∃ t, ls.getD k [] = t := ⟨_, rfl⟩
      rw [ht] at c0 hs hmem
      have hlen := HM.out t hmem
      unfold maxLen at hlen
      obtain ⟨N, hN⟩ : ∃ N, t.length = N := ⟨_, rfl⟩
      have hsz : (crcm.mk t).size = N := by rw [crcm.mk_size, hN]
      rw [hN] at hlen
      by_cases h2 : N ≤ 200
      · have h2i : ¬ (200 : Int) < (N : Int) := by omega
        have hf : decide (t.length ≤ 200) = true := by rw [hN]; exact decide_eq_true h2
        have HF := Lib.hid hf
        have HSS := Lib.hid hs
        clear hf hs ht hN
        go_wp2
        go_round
        case rel => exact ⟨k + 1, by omega, by go_num, by rw [HSS.out, List.all_append, HALL.out, List.all_cons, HF.out]; rfl⟩
        case measure => simp [intOf]; omega
      · have h2i : (200 : Int) < (N : Int) := by omega
        have hno : wl.okTexts ls = false := by
          rw [HO.out, Bool.and_eq_false_iff]
          refine .inl ?_
          rw [List.all_eq_false]
          exact ⟨t, hmem, by rw [hN]; simpa using h2⟩
        have HNO := Lib.hid hno
        clear hs ht hN hno
        go_wp2
        go_ret
        rw [HNO.out]
        exact ⟨rfl, hb⟩
    · obtain rfl : k = n := by omega
      have hall := HALL.out
      rw [HTK.out] at hall
      have hres : wl.okTexts ls = decide (k ≤ 10) := by rw [HO.out, hall, Bool.true_and]
      have HR := Lib.hid hres
      clear hall hres
      by_cases h10 : k ≤ 10
      · have hi : (k : Int) ≤ 10 := by omega
        go_wp2
        go_ret
        rw [HR.out, decide_eq_true h10]
        exact ⟨rfl, hb⟩
      · have hi : ¬ (k : Int) ≤ 10 := by omega
        go_wp2
        go_ret
        rw [HR.out, decide_eq_false h10]
        exact ⟨rfl, hb⟩
end Go.Proofs.YtdnoeahhidmkbaaDoor
