/- The anchor of the laws on sums holds. -/
import Derived.Test.YtckgnckhmkgeeaaDoorCrcRef
namespace Go.Proofs.YtckgnckhmkgeeaaDoor
open Go Go.RowKit

theorem put_ab : crcm.put [97, 98] = (crcm.body [97, 98], 0) := rfl
theorem body_ab : (crcm.body [97, 98]).length = 8 := rfl
theorem sum_nine : crcm.sum [49, 50, 51, 52, 53, 54, 55, 56, 57] = 3421780262 := by decide +kernel
theorem get_ab : crcm.get (crcm.body [97, 98] ++ [120]) = ([97, 98], 8, 0) := crcm.get_body [97, 98] [120] (by decide)

set_option maxHeartbeats 1000000 in
theorem shown_any (w : World) (ht : TabAt w) : Calls Tryd.prog 9 #[] w fun e w' => e = .returned (.bool true) ∧ Below w.heap.size w w' := by
  go_enter Tryd.func9, Tryd.ntmps9
  go_wp2_with fail
  refine (put_any _ _ (by decide +kernel) ht).mono ?_
  rw [show (ByteArray.mk #[97, 98]).data.toList = [97, 98] from rfl, put_ab]
  rintro e w1 ⟨rfl, hb1⟩
  have ht1 := ht.below hb1 ht.1
  have z1 : (crcm.mk (crcm.body [97, 98])).size ≤ 100 := by rw [crcm.mk_size, body_ab]; omega
  obtain ⟨B, hB⟩ : ∃ B, crcm.body [97, 98] = B := ⟨_, rfl⟩
  have hg := get_ab
  rw [hB] at z1 hg ⊢
  have z2 : (ByteArray.mk #[120]).size ≤ 100 := by decide
  have Hg := Lib.hid hg
  clear hg hB
  go_wp2_with fail
  refine (get_any _ _ (by rw [ByteArray.size_append]; unfold maxLen; omega) ht1).mono ?_
  unfold GetPost
  rw [show (crcm.mk B ++ ByteArray.mk #[120]).data.toList = B ++ [120] from by rw [show ByteArray.mk #[120] = crcm.mk [120] from rfl, crcm.mk_append, crcm.mk_toList], Hg.out]
  rintro e w2 ⟨rfl, hb2⟩
  have ht2 := ht1.below hb2 ht1.1
  have hm : (crcm.mk [97, 98]).toList = [97, 98] := by rw [ByteArray.toList_eq]; rfl
  go_wp2_with fail
  refine (sum_any _ _ (by decide +kernel) ht2).mono ?_
  rw [show (ByteArray.mk #[49, 50, 51, 52, 53, 54, 55, 56, 57]).data.toList = [49, 50, 51, 52, 53, 54, 55, 56, 57] from rfl, sum_nine]
  rintro e w3 ⟨rfl, hb3⟩
  go_wp2_with fail
  go_ret
  exact ⟨rfl, (hb1.trans (hb2.mono hb1.size)).trans (hb3.mono (Nat.le_trans hb1.size hb2.size))⟩
end Go.Proofs.YtckgnckhmkgeeaaDoor
