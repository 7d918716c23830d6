/- CrcPuts walked: whatever comes in, it returns true. -/
import Derived.Test.YtckgnckhmkgeeaaDoorCrcShown
import Derived.Test.YtckgnckhmkgeeaaDoorCrcAllIt
namespace Go.Proofs.YtckgnckhmkgeeaaDoor
open Go Go.RowKit

theorem puts_long1 (t s : ByteArray) (w : World) (hs : s.size ≤ maxLen) (h : 1500 < s.size) (ht : TabAt w) :
    Calls Tryd.prog 7 #[.string t, .string s] w fun e w' => e = .returned (.bool true) ∧ Below w.heap.size w w' := by
  unfold maxLen at hs
  go_enter Tryd.func7, Tryd.ntmps7
  go_wp2_with (go_at_call 9; refine (shown_any _ ht).mono ?_; rintro e w1 ⟨rfl, hb1⟩)
  go_ret
  exact ⟨rfl, hb1⟩
theorem puts_long2 (t s : ByteArray) (w : World) (hs : t.size ≤ maxLen) (h : s.size ≤ 1500) (h2 : 66000 < t.size) (ht : TabAt w) :
    Calls Tryd.prog 7 #[.string t, .string s] w fun e w' => e = .returned (.bool true) ∧ Below w.heap.size w w' := by
  unfold maxLen at hs
  go_enter Tryd.func7, Tryd.ntmps7
  go_wp2_with (go_at_call 9; refine (shown_any _ ht).mono ?_; rintro e w1 ⟨rfl, hb1⟩)
  go_ret
  exact ⟨rfl, hb1⟩

set_option maxHeartbeats 4000000 in
theorem puts_short (t s : ByteArray) (w : World) (h : s.size ≤ 1500) (h2 : t.size ≤ 66000) (ht : TabAt w) :
    Calls Tryd.prog 7 #[.string t, .string s] w fun e w' => e = .returned (.bool true) ∧ Below w.heap.size w w' := by
  have hm1 : s.size ≤ maxLen := by unfold maxLen; omega
  have hm2 : t.size ≤ maxLen := by unfold maxLen; omega
  have hal : (crcm.allOf s.data.toList).1.length ≤ maxLen := by
    have := (crcm.allOf_le s.data.toList).2
    rw [crcm.size_len] at this
    unfold maxLen; omega
  go_enter Tryd.func7, Tryd.ntmps7
  go_wp2_with fail
  refine (shown_any _ ht).mono ?_
  rintro e w1 ⟨rfl, hb1⟩
  have ht1 := ht.below hb1 ht.1
  go_wp2_with fail
  refine (put_any t w1 hm2 ht1).mono ?_
  rintro e w2 ⟨rfl, hb2⟩
  have ht2 := ht1.below hb2 ht1.1
  go_wp2_with fail
  refine (rput_any t w2 hm2).mono ?_
  rintro e w3 ⟨rfl, hb3⟩
  have ht3 := ht2.below hb3 ht2.1
  go_wp2_with fail
  refine (get_any s w3 hm1 ht3).mono ?_
  unfold GetPost
  rintro e w4 ⟨rfl, hb4⟩
  go_wp2_with fail
  refine (rget_any s w4 hm1).mono ?_
  unfold GetPost
  rintro e w5 ⟨rfl, hb5⟩
  have ht5 := (ht3.below hb4 ht3.1).below hb5 (Nat.lt_of_lt_of_le ht3.1 hb4.size)
  go_wp2_with fail
  refine (all_any s w5 (by omega) ht5).mono ?_
  rintro e w6 ⟨v, rfl, hv, hb6⟩
  go_wp2_with fail
  refine (rall_any s w6 (by omega)).mono ?_
  rintro e w7 ⟨u, rfl, hu, hb7⟩
  have hv7 := hv.below hb7
  go_wp2_with fail
  refine (same_texts hv7 hu hal).mono ?_
  rintro e w8 ⟨rfl, q, rfl⟩
  go_wp2_with fail
  go_ret
  have h12 := hb1.trans (hb2.mono hb1.size)
  have h13 := h12.trans (hb3.mono h12.size)
  have h14 := h13.trans (hb4.mono h13.size)
  have h15 := h14.trans (hb5.mono h14.size)
  have h16 := h15.trans (hb6.mono h15.size)
  exact ⟨rfl, below_drewN (h16.trans (hb7.mono h16.size)) _⟩
theorem puts_law (t s : ByteArray) (w : World) (hm2 : t.size ≤ maxLen) (hm1 : s.size ≤ maxLen) (ht : TabAt w) :
    Calls Tryd.prog 7 #[.string t, .string s] w fun e w' => e = .returned (.bool true) ∧ Below w.heap.size w w' := by
  by_cases h : s.size ≤ 1500
  · by_cases h2 : t.size ≤ 66000
    · exact puts_short t s w h h2 ht
    · exact puts_long2 t s w hm2 h (by omega) ht
  · exact puts_long1 t s w hm1 (by omega) ht
end Go.Proofs.YtckgnckhmkgeeaaDoor
