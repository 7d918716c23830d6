/- The sums, walked: crc.Sum, and the document's More and Sum. -/
import Derived.Test.YtckchihdeimgpaaDoorCrcMore
import Derived.Test.YtckchihdeimgpaaDoorCrcText
import Derived.WalkSmall
import Derived.Lib.Strings
namespace Go.Proofs.YtckchihdeimgpaaDoor
open Go Go.RowKit

theorem sum_any (s : ByteArray) (w : World) (hs : s.size ≤ maxLen) (ht : TabAt w) :
    Calls Tryd.prog 24 #[.string s] w fun e w' => e = .returned (.int .u32 (crcm.sum s.data.toList : Nat)) ∧ Below w.heap.size w w' := by
  go_enter Tryd.func24, Tryd.ntmps24
  go_wp2_with (go_at_call 27; refine (more_any 0 s _ (by decide) hs ht).mono ?_; rintro e w' ⟨rfl, hb⟩)
  go_ret
  exact ⟨rfl, hb⟩

set_option maxHeartbeats 1000000 in
theorem rmore_any (n : Nat) (s : ByteArray) (w : World) (hn : n < 4294967296) (hs : s.size ≤ maxLen) :
    Calls Tryd.prog 28 #[.int .u32 (n : Int), .string s] w fun e w' => e = .returned (.int .u32 (crcm.more n s.data.toList : Nat)) ∧ w = w' := by
  unfold maxLen at hs
  have hlen : s.data.toList.length = s.size := crcm.size_len s
  have Hlen := Lib.hid hlen
  clear hlen
  obtain ⟨m, hm⟩ : ∃ m, 4294967295 - n = m := ⟨_, rfl⟩
  have hm4 : m < 4294967296 := by omega
  have hmi : (4294967295 : Int) - (n : Int) = (m : Int) := by omega
  have Hm := Lib.hid hm
  have Hmi := Lib.hid hmi
  clear hm hmi
  go_enter Tryd.func28, Tryd.ntmps28
  go_wp2
  go_loop [5, 6, 7] (fun x i _ => ∃ k L : Nat, k ≤ s.size ∧ i = .int .i64 k ∧ x = .int .u32 (L : Int) ∧ L < 4294967296 ∧ L = crcm.loop m (s.data.toList.take k)) (fun _ i _ => s.size - (intOf i).toNat)
  case atStart => exact ⟨0, m, Nat.zero_le _, rfl, slot_u32 Hmi.out, hm4, rfl⟩
  case round =>
    obtain ⟨k, L, hk, rfl, rfl, hL, hLe⟩ := hrel
    have HL := Lib.hid hLe
    clear hLe
    by_cases hlt : k < s.size
    · have hsnoc := take_snoc8 s.data.toList k (by rw [Hlen.out]; exact hlt)
      have hget : s[k] = s.data.toList.getD k 0 := by
        rw [List.getD_eq_getElem?_getD, List.getElem?_eq_getElem (by rw [Hlen.out]; exact hlt)]; rfl
      obtain ⟨b, hb8⟩ : ∃ b : UInt8, s.data.toList.getD k 0 = b := ⟨_, rfl⟩
      rw [hb8] at hget hsnoc
      clear hb8
      have hbt : b.toNat < 256 := b.toNat_lt
      have hmod : (b.toNat : Int) % 4294967296 = b.toNat := by omega
      have e1 := u32_xor_nat L b.toNat hL (by omega)
      have hx1 := crcm.xor_lt hL (crcm.u8_lt b)
      obtain ⟨x1, hx1e⟩ : ∃ x, L ^^^ b.toNat = x := ⟨_, rfl⟩
      rw [hx1e] at e1 hx1
      have H : Hid (crcm.bits1 8 x1 = crcm.loop m (s.data.toList.take (k + 1))) := by
        show crcm.bits1 8 x1 = _
        rw [hsnoc, crcm.loop_snoc, ← HL.out, crcm.byte1_bits, hx1e]
      clear hsnoc hx1e
      go_wp2
      go_loop [5, 7] (fun x i => ∃ j y : Nat, j ≤ 8 ∧ i = .int .i64 j ∧ x = .int .u32 (y : Int) ∧ y < 4294967296 ∧ y = crcm.bits1 j x1) (fun _ i => 8 - (intOf i).toNat)
      case atStart => exact ⟨0, x1, Nat.zero_le _, rfl, rfl, hx1, rfl⟩
      case round =>
        obtain ⟨j, y, hj, rfl, rfl, hy, hye⟩ := hrel
        have HY := Lib.hid hye
        clear hye hmod e1 hget
        by_cases hj8 : j < 8
        · by_cases hodd : y % 2 = 1
          · have hx := u32_xor_nat (y / 2) 3988292384 (by omega) (by decide)
            have hq : (y : Int) / 2 = ((y / 2 : Nat) : Int) := by omega
            have hx' : bits .xor .u32 ((y : Int) / 2) 3988292384 = ((crcm.bit1 y : Nat) : Int) := by
              unfold crcm.bit1; rw [if_pos hodd, hq]; exact hx
            have hby := crcm.bit1_lt hy
            have ho : ((y : Int) % 2 == 1) = true := by rw [beq_iff_eq]; omega
            clear hx hq
            have hodd' : (y : Int) % 2 = 1 := by omega
            have HO := Lib.hid hodd
            clear hodd
            go_wp2
            go_round
            case rel => exact ⟨j + 1, crcm.bit1 y, by omega, by go_num, rfl, hby, by rw [HY.out]; rfl⟩
            case measure => simp [intOf]; omega
          · have hx' : (y : Int) / 2 = ((crcm.bit1 y : Nat) : Int) := by
              unfold crcm.bit1; rw [if_neg hodd]; omega
            have hby := crcm.bit1_lt hy
            have HX := Lib.hid hx'
            clear hx'
            have ho : ((y : Int) % 2 == 1) = false := by rw [beq_eq_false_iff_ne]; omega
            go_wp2
            go_round
            case rel => exact ⟨j + 1, crcm.bit1 y, by omega, by go_num, slot_u32 HX.out, hby, by rw [HY.out]; rfl⟩
            case measure => simp [intOf]; omega
        · obtain rfl : j = 8 := by omega
          go_wp2
          go_round
          case rel => exact ⟨k + 1, y, by omega, by go_num, rfl, hy, by rw [HY.out, H.out]⟩
          case measure => simp [intOf]; omega
    · have hfin : Value.int .u32 (4294967295 - (L : Int)) = Value.int .u32 (crcm.more n s.data.toList : Nat) := by
        apply slot_u32
        have : crcm.more n s.data.toList = 4294967295 - L := by
          rw [HL.out, List.take_of_length_le (by rw [Hlen.out]; omega), ← Hm.out]; rfl
        rw [this]; omega
      have Hfin := Lib.hid hfin
      clear hfin
      go_wp2
      go_ret
      exact ⟨ret_of Hfin.out, rfl⟩
theorem rsum_any (s : ByteArray) (w : World) (hs : s.size ≤ maxLen) :
    Calls Tryd.prog 25 #[.string s] w fun e w' => e = .returned (.int .u32 (crcm.sum s.data.toList : Nat)) ∧ w = w' := by
  go_enter Tryd.func25, Tryd.ntmps25
  go_wp2_with (go_at_call 28; refine (rmore_any 0 s _ (by decide) hs).mono ?_; rintro e w' ⟨rfl, rfl⟩)
  go_ret
  exact ⟨rfl, rfl⟩

theorem byte_at (s : ByteArray) (k : Nat) (h : k < s.size) : s[k] = s.data.toList.getD k 0 := by
  rw [List.getD_eq_getElem?_getD, List.getElem?_eq_getElem (by rw [crcm.size_len]; exact h)]; rfl
end Go.Proofs.YtckchihdeimgpaaDoor
