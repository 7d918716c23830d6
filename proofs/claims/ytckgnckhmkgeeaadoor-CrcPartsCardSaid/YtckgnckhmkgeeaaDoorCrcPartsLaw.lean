/- CrcParts walked: whatever comes in, it returns true. -/
import Derived.Test.YtckgnckhmkgeeaaDoorCrcShown
import Derived.Test.YtckgnckhmkgeeaaDoorStrs
namespace Go.Proofs.YtckgnckhmkgeeaaDoor
open Go Go.RowKit

theorem add_mk {P : Program} (a b : List UInt8) (h : a.length + b.length ≤ 9223372036854775807) (W : World) : (Op.stringOp .add (crcm.mk a) (crcm.mk b)).run P W = .ok (.string (crcm.mk (a ++ b))) W := by
  rw [run_string_add_sum _ _ _ (by rw [crcm.mk_size, crcm.mk_size]; exact h), crcm.mk_append]
theorem sum_lt' (l : List UInt8) : crcm.sum l < 4294967296 := crcm.more_lt 0 l

theorem parts_many (v : Value) (ls : List (List UInt8)) (w : World) (hl : Texts w v ls) (h : 30 < ls.length) (ht : TabAt w) :
    Calls Tryd.prog 5 #[v] w fun e w' => e = .returned (.bool true) ∧ Below w.heap.size w w' := by
  obtain ⟨⟨A, c, rfl, _⟩, h2, _⟩ := hl
  unfold maxLen at h2
  go_enter Tryd.func5, Tryd.ntmps5
  go_wp2_with (go_at_call 9; refine (shown_any _ ht).mono ?_; rintro e w1 ⟨rfl, hb1⟩)
  go_ret
  exact ⟨rfl, hb1⟩

theorem flat_len (ls : List (List UInt8)) (h : ∀ t ∈ ls, t.length ≤ 200) : ls.flatten.length ≤ 200 * ls.length := by
  induction ls with
  | nil => simp
  | cons t r ih =>
    have h1 := h t (by simp)
    have h2 := ih (fun x hx => h x (by simp [hx]))
    simp only [List.flatten_cons, List.length_append, List.length_cons]
    omega

set_option maxHeartbeats 4000000 in
theorem parts_few (A : Option Addr) (c : Nat) (ls : List (List UInt8)) (w : World) (hA : ∀ k, k < ls.length → ∃ ad, A = some ad ∧ w.cell? (ad.add k) = some (.string (crcm.mk (ls.getD k [])))) (hm : ∀ t ∈ ls, t.length ≤ maxLen) (h : ls.length ≤ 30) (ht : TabAt w) :
    Calls Tryd.prog 5 #[.slice A ls.length c] w fun e w' => e = .returned (.bool true) ∧ Below w.heap.size w w' := by
  obtain ⟨n, hn⟩ : ∃ n, ls.length = n := ⟨_, rfl⟩
  rw [hn] at hA h ⊢
  have Hn := Lib.hid hn
  clear hn
  have hm0 : (ByteArray.mk #[]).size ≤ maxLen := by decide
  go_enter Tryd.func5, Tryd.ntmps5
  go_wp2_with fail
  refine (shown_any _ ht).mono ?_
  rintro e w1 ⟨rfl, hb1⟩
  have ht1 := ht.below hb1 ht.1
  go_wp2_with fail
  refine (sum_any _ w1 hm0 ht1).mono ?_
  rw [show (ByteArray.mk #[]).data.toList = [] from rfl, crcm.sum_nil]
  rintro e w2 ⟨rfl, hb2⟩
  have hb02 : Below w.heap.size w w2 := hb1.trans (hb2.mono hb1.size)
  clear ht1 hb1 hb2
  go_wp2_with fail
  go_loopw [3, 4, 5] (fun s x i wr => ∃ k : Nat, k ≤ n ∧ i = .int .i64 k ∧ s = .string (crcm.mk (ls.take k).flatten) ∧ x = .int .u32 (crcm.sum (ls.take k).flatten : Nat) ∧ (∀ t ∈ ls.take k, t.length ≤ 200) ∧ Below w.heap.size w wr) (fun _ _ i _ => n - (intOf i).toNat)
  case atStart => exact ⟨0, Nat.zero_le _, rfl, rfl, by rw [List.take_zero, List.flatten_nil, crcm.sum_nil]; rfl, fun t ht => by simp at ht, hb02⟩
  case round =>
    obtain ⟨k, hk, rfl, rfl, rfl, h200, hbel⟩ := hrel
    have htr := ht.below hbel ht.1
    clear hb02
    have hfl := flat_len _ h200
    have hkl : (ls.take k).length ≤ k := by rw [List.length_take]; omega
    have h200' := Lib.hid h200
    clear h200
    by_cases hlt : k < n
    · obtain ⟨a1, rfl, c1⟩ := hA k hlt
      have c1' := cell_later hbel c1
      have hmem : ls.getD k [] ∈ ls := by
        rw [List.getD_eq_getElem?_getD, List.getElem?_eq_getElem (by rw [Hn.out]; exact hlt)]; exact List.getElem_mem _
      have htm := hm _ hmem
      have hsn : ls.take (k + 1) = ls.take k ++ [ls.getD k []] := by
        rw [List.take_add_one, List.getD_eq_getElem?_getD, List.getElem?_eq_getElem (by rw [Hn.out]; exact hlt)]; rfl
      obtain ⟨t, hte⟩ : ∃ t, ls.getD k [] = t := ⟨_, rfl⟩
      rw [hte] at c1' htm hsn
      clear hmem hte c1 hA hm hm0
      have Hsn := Lib.hid hsn
      clear hsn
      have hsz : (crcm.mk t).size ≤ maxLen := by rw [crcm.mk_size]; exact htm
      have hszi : ((crcm.mk t).size : Int) = (t.length : Int) := by rw [crcm.mk_size]
      by_cases hlong : 200 < t.length
      · have hlong2 : 200 < (crcm.mk t).size := by rw [crcm.mk_size]; exact hlong
        clear hszi
        unfold maxLen at hsz
        go_wp2_with (go_at_call 9; refine (shown_any _ htr).mono ?_; rintro e w3 ⟨rfl, hb3⟩)
        go_ret
        exact ⟨rfl, hbel.trans (hb3.mono hbel.size)⟩
      · have hshort : (crcm.mk t).size ≤ 200 := by rw [crcm.mk_size]; omega
        clear hszi
        obtain ⟨F, hF⟩ : ∃ F, (ls.take k).flatten = F := ⟨_, rfl⟩
        rw [hF] at hfl
        have hsnF : (ls.take (k + 1)).flatten = F ++ t := by rw [Hsn.out, List.flatten_append, hF]; simp
        have HsnF := Lib.hid hsnF
        clear hsnF
        rw [hF]
        have hadd := fun W => add_mk (P := Tryd.prog) F t (by omega) W
        have h4 := sum_lt' F
        have hstep : crcm.more (crcm.sum F) t = crcm.sum (F ++ t) := crcm.more_sum F t
        have Hstep := Lib.hid hstep
        clear hstep hF
        go_wp2_with (go_at_call 12; refine (more_any (crcm.sum F) _ _ h4 hsz htr).mono ?_; rw [crcm.mk_toList, Hstep.out]; rintro e w3 ⟨rfl, hb3⟩)
        go_roundw
        case rel => exact ⟨k + 1, by omega, by go_num, by rw [HsnF.out], by rw [HsnF.out], by
            rw [Hsn.out]; intro x hx
            rcases List.mem_append.1 hx with hx | hx
            · exact h200'.out x hx
            · simp at hx; subst hx; rw [crcm.mk_size] at hshort; exact hshort, hbel.trans (hb3.mono hbel.size)⟩
        case measure => simp [intOf]; omega
    · clear hA hm
      obtain ⟨F, hF⟩ : ∃ F, (ls.take k).flatten = F := ⟨_, rfl⟩
      rw [hF] at hfl ⊢
      have h4 := sum_lt' F
      have hsz : (crcm.mk F).size ≤ maxLen := by rw [crcm.mk_size]; unfold maxLen; omega
      clear hF
      go_wp2_with fail
      refine (sum_any (crcm.mk F) _ hsz htr).mono ?_
      rw [crcm.mk_toList]
      rintro e w3 ⟨rfl, hb3⟩
      have ht3 := htr.below hb3 htr.1
      go_wp2_with fail
      refine (sum_any _ w3 hm0 ht3).mono ?_
      rw [show (ByteArray.mk #[]).data.toList = [] from rfl, crcm.sum_nil]
      rintro e w4 ⟨rfl, hb4⟩
      have ht4 := ht3.below hb4 ht3.1
      go_wp2_with fail
      refine (more_any (crcm.sum F) _ w4 h4 hm0 ht4).mono ?_
      rw [show (ByteArray.mk #[]).data.toList = [] from rfl, crcm.more_nil h4]
      rintro e w5 ⟨rfl, hb5⟩
      go_wp2_with fail
      go_ret
      exact ⟨rfl, hbel.trans ((hb3.trans ((hb4.trans (hb5.mono hb4.size)).mono hb3.size)).mono hbel.size)⟩

theorem parts_law (v : Value) (ls : List (List UInt8)) (w : World) (hl : Texts w v ls) (ht : TabAt w) :
    Calls Tryd.prog 5 #[v] w fun e w' => e = .returned (.bool true) ∧ Below w.heap.size w w' := by
  by_cases h : ls.length ≤ 30
  · obtain ⟨⟨A, c, rfl, hA⟩, _, h3⟩ := hl
    exact parts_few A c ls w hA h3 h ht
  · exact parts_many v ls w hl (by omega) ht
end Go.Proofs.YtckgnckhmkgeeaaDoor
