/- The anchor of the laws on filters holds. -/
import Derived.Test.YtckchihdeimgpaaDoorBloomRefMake
namespace Go.Proofs.YtckchihdeimgpaaDoor
open Go Go.RowKit

theorem make_a : blm.make [[97]] 10 = (blm.filt 8 [[97]], 0) := rfl
theorem full_a : blm.full (blm.filt 8 [[97]]) = 4 := by decide +kernel
theorem may_a : blm.may (blm.filt 8 [[97]]) [97] = true := blm.may_filt 8 (by decide) _ _ (by simp)
theorem texts_one (w : World) (s : List UInt8) (hs : s.length ≤ maxLen) : Texts (w.alloc (.cells #[.string (crcm.mk s)] 9)) (.slice (some ⟨w.heap.size, 0, none⟩) 1 1) [s] := by
  refine ⟨⟨_, 1, rfl, fun k hk => ⟨_, rfl, ?_⟩⟩, by unfold maxLen; simp, fun t ht => by simp at ht; subst ht; exact hs, _, 1, rfl, by simp⟩
  obtain rfl : k = 0 := by simp at hk; omega
  exact cell_of_one (heap_alloc_new w _)

set_option maxHeartbeats 1000000 in
theorem shown_any (w : World) (ht : TabAt w) : Calls Tryd.prog 10 #[] w fun e w' => e = .returned (.bool true) ∧ Below w.heap.size w w' := by
  have hb0 : Below w.heap.size w (w.alloc (.cells #[.string (crcm.mk [97])] 9)) := (Below.refl _ _).alloc (Nat.le_refl _) _
  have ht0 := ht.below hb0 ht.1
  have hmk := make_any _ [[97]] 10 _ (texts_one w [97] (by decide)) (by simp) ht0
  unfold MakePost at hmk
  rw [make_a] at hmk
  have hfl := blm.filt_len 8 [[97]]
  have hfu := full_a
  have hma := may_a
  obtain ⟨F, hF⟩ : ∃ F, blm.filt 8 [[97]] = F := ⟨_, rfl⟩
  rw [hF] at hmk hfl hfu hma
  have hsz : (crcm.mk F).size = 8 := by rw [crcm.mk_size, hfl]
  have HMK := Lib.hid hmk
  have Hfu := Lib.hid hfu
  have Hma := Lib.hid hma
  have Hb0 := Lib.hid hb0
  clear hmk hfl hfu hma hF hb0
  go_enter Tryd.func10, Tryd.ntmps10
  go_wp2_with fail
  refine HMK.out.mono ?_
  rintro e w1 ⟨rfl, hb1⟩
  have ht1 := ht0.below hb1 ht0.1
  have HB1 := Lib.hid (Hb0.out.trans (hb1.mono Hb0.out.size))
  clear hb1
  go_wp2_with fail
  refine (may_any _ _ w1 (by omega) (by decide) ht1).mono ?_
  rw [crcm.mk_toList, show (ByteArray.mk #[97]).data.toList = [97] from rfl, Hma.out]
  rintro e w2 ⟨rfl, hb2⟩
  have ht2 := ht1.below hb2 ht1.1
  have HB2 := Lib.hid (HB1.out.trans (hb2.mono HB1.out.size))
  clear hb2
  go_wp2_with fail
  refine (full_any _ w2 (by omega)).mono ?_
  rw [crcm.mk_toList, Hfu.out]
  rintro e w3 ⟨rfl, hb3⟩
  have ht3 := ht2.below hb3 ht2.1
  have HB3 := Lib.hid (HB2.out.trans (hb3.mono HB2.out.size))
  clear hb3
  go_wp2_with fail
  refine (bits_some _ 64 w3 (by decide) (by decide) (by decide) ht3).mono ?_
  rintro e w4 ⟨v, rfl, ⟨A, c, rfl, _, _⟩, hb4⟩
  have HB4 := Lib.hid (HB3.out.trans (hb4.mono HB3.out.size))
  clear hb4
  go_wp2_with fail
  go_ret
  exact ⟨rfl, HB4.out⟩
end Go.Proofs.YtckchihdeimgpaaDoor
