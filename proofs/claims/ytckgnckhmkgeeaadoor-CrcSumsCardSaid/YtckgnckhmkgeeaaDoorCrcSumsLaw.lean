/- CrcSums walked: whatever comes in, it returns true. -/
import Derived.Test.YtckgnckhmkgeeaaDoorCrcShown
namespace Go.Proofs.YtckgnckhmkgeeaaDoor
open Go Go.RowKit

def Yes (w : World) (e : Ending) (w' : World) : Prop := e = .returned (.bool true) ∧ Below w.heap.size w w'

set_option maxHeartbeats 1000000 in
theorem sums_long1 (x : Nat) (s t : ByteArray) (w : World) (hs : s.size ≤ maxLen) (h : 600 < s.size) (ht : TabAt w) :
    Calls Tryd.prog 3 #[.int .u32 (x : Int), .string s, .string t] w (Yes w) := by
  unfold maxLen at hs
  go_enter Tryd.func3, Tryd.ntmps3
  go_wp2_with (go_at_call 9; refine (shown_any _ ht).mono ?_; rintro e w1 ⟨rfl, hb1⟩)
  go_ret
  exact ⟨rfl, hb1⟩
set_option maxHeartbeats 1000000 in
theorem sums_long2 (x : Nat) (s t : ByteArray) (w : World) (hs : t.size ≤ maxLen) (h : s.size ≤ 600) (h2 : 600 < t.size) (ht : TabAt w) :
    Calls Tryd.prog 3 #[.int .u32 (x : Int), .string s, .string t] w (Yes w) := by
  unfold maxLen at hs
  go_enter Tryd.func3, Tryd.ntmps3
  go_wp2_with (go_at_call 9; refine (shown_any _ ht).mono ?_; rintro e w1 ⟨rfl, hb1⟩)
  go_ret
  exact ⟨rfl, hb1⟩
set_option maxHeartbeats 2000000 in
theorem sums_short (x : Nat) (s t : ByteArray) (w : World) (hx : x < 4294967296) (h : s.size ≤ 600) (h2 : t.size ≤ 600) (ht : TabAt w) :
    Calls Tryd.prog 3 #[.int .u32 (x : Int), .string s, .string t] w (Yes w) := by
  have hm1 : s.size ≤ maxLen := by unfold maxLen; omega
  have hm2 : t.size ≤ maxLen := by unfold maxLen; omega
  have hm3 : (s ++ t).size ≤ maxLen := by rw [ByteArray.size_append]; unfold maxLen; omega
  have hcat : (s ++ t).data.toList = s.data.toList ++ t.data.toList := by rw [ByteArray.data_append, Array.toList_append]
  have Hcat := Lib.hid hcat
  clear hcat
  go_enter Tryd.func3, Tryd.ntmps3
  go_wp2_with fail
  refine (shown_any _ ht).mono ?_
  rintro e w1 ⟨rfl, hb1⟩
  have ht1 := ht.below hb1 ht.1
  go_wp2_with fail
  refine (sum_any s w1 hm1 ht1).mono ?_
  rintro e w2 ⟨rfl, hb2⟩
  have ht2 := ht1.below hb2 ht1.1
  go_wp2_with fail
  refine (rsum_any s w2 hm1).mono ?_
  rintro e w2' ⟨rfl, rfl⟩
  go_wp2_with fail
  refine (more_any x s w2 hx hm1 ht2).mono ?_
  rintro e w3 ⟨rfl, hb3⟩
  have ht3 := ht2.below hb3 ht2.1
  go_wp2_with fail
  refine (rmore_any x s w3 hx hm1).mono ?_
  rintro e w3' ⟨rfl, rfl⟩
  go_wp2_with fail
  refine (sum_any s w3 hm1 ht3).mono ?_
  rintro e w4 ⟨rfl, hb4⟩
  have ht4 := ht3.below hb4 ht3.1
  go_wp2_with fail
  refine (more_any (crcm.sum s.data.toList) t w4 (crcm.more_lt _ _) hm2 ht4).mono ?_
  rw [crcm.more_sum]
  rintro e w5 ⟨rfl, hb5⟩
  have ht5 := ht4.below hb5 ht4.1
  go_wp2_with fail
  refine (sum_any _ w5 hm3 ht5).mono ?_
  rw [Hcat.out]
  rintro e w6 ⟨rfl, hb6⟩
  go_wp2_with fail
  go_ret
  exact ⟨rfl, hb1.trans ((hb2.trans ((hb3.trans ((hb4.trans ((hb5.trans (hb6.mono hb5.size)).mono hb4.size)).mono hb3.size)).mono hb2.size)).mono hb1.size)⟩
theorem sums_law (x : Nat) (s t : ByteArray) (w : World) (hx : x < 4294967296) (hs : s.size ≤ maxLen) (htt : t.size ≤ maxLen) (ht : TabAt w) :
    Calls Tryd.prog 3 #[.int .u32 (x : Int), .string s, .string t] w (Yes w) := by
  by_cases h : s.size ≤ 600
  · by_cases h2 : t.size ≤ 600
    · exact sums_short x s t w hx h h2 ht
    · exact sums_long2 x s t w htt h (by omega) ht
  · exact sums_long1 x s t w hs (by omega) ht
end Go.Proofs.YtckgnckhmkgeeaaDoor
