/- How many bits of a filter are set: both ways, walked; one bit asked, by the document. -/
import Derived.Test.YtckchihdeimgpaaDoorCrcSum
import Derived.Test.YtckchihdeimgpaaDoorBloomMath
import Derived.Lib.BitFns
namespace Go.Proofs.YtckchihdeimgpaaDoor
open Go Go.RowKit

theorem halves (n k : Nat) : n / 2 ^ (k + 1) = n / 2 ^ k / 2 := by rw [Nat.pow_succ, Nat.div_div_eq_div_mul]
set_option maxHeartbeats 1000000 in
theorem bit_any (s : ByteArray) (i : Nat) (w : World) (hs : s.size ≤ 1000000) (hi : i < 8 * s.size) :
    Calls Tryd.prog 23 #[.string s, .int .i64 (i : Int)] w fun e w' => e = .returned (.bool (blm.getB s.data.toList i)) ∧ w = w' := by
  have hg := byte_at s (i / 8) (by omega)
  have hfin : blm.getB s.data.toList i = (s.data.toList.getD (i / 8) 0).toNat.testBit (i % 8) := rfl
  obtain ⟨b, hb⟩ : ∃ b, s.data.toList.getD (i / 8) 0 = b := ⟨_, rfl⟩
  rw [hb] at hg hfin
  have hbl : b.toNat < 256 := b.toNat_lt
  obtain ⟨j, hj⟩ : ∃ j, i / 8 = j := ⟨_, rfl⟩
  obtain ⟨q, hq⟩ : ∃ q, i % 8 = q := ⟨_, rfl⟩
  have hji : (i : Int) / 8 = (j : Int) := by omega
  have hqi : (i : Int) % 8 = (q : Int) := by omega
  have hjl : j < s.size := by omega
  have hq8 : q < 8 := by omega
  rw [hq] at hfin
  have hgj : s[j] = b := by rw [← hg]; congr 1; exact hj.symm
  have Hfin := Lib.hid hfin
  clear hfin hb hg hj hq
  go_enter Tryd.func23, Tryd.ntmps23
  go_wp2
  go_loop [5, 6] (fun x i => ∃ k y : Nat, k ≤ q ∧ i = .int .i64 k ∧ x = .int .i64 (y : Int) ∧ y < 256 ∧ y = b.toNat / 2 ^ k) (fun _ i => q - (intOf i).toNat)
  case atStart => exact ⟨0, b.toNat, Nat.zero_le _, rfl, rfl, hbl, by simp⟩
  case round =>
    obtain ⟨k, y, hk, rfl, rfl, hy, hye⟩ := hrel
    have HY := Lib.hid hye
    clear hye
    by_cases hlt : k < q
    · have hh : (y : Int) / 2 = ((y / 2 : Nat) : Int) := by omega
      have HH := Lib.hid hh
      clear hh
      go_wp2
      go_round
      case rel => exact ⟨k + 1, y / 2, by omega, by go_num, slot_i64 HH.out, by omega, by rw [HY.out, halves]⟩
      case measure => simp [intOf]; omega
    · obtain rfl : k = q := by omega
      have hbit : ((y : Int) % 2 == 1) = b.toNat.testBit k := by
        rw [HY.out]
        rw [Nat.testBit_eq_decide_div_mod_eq]
        rw [Bool.eq_iff_iff, beq_iff_eq, decide_eq_true_iff]
        omega
      have Hbit := Lib.hid hbit
      clear hbit
      go_wp2
      go_ret
      exact ⟨ret_of (by rw [Hfin.out, ← Hbit.out]; rfl), rfl⟩

set_option maxHeartbeats 1000000 in
theorem rfull_any (s : ByteArray) (w : World) (hs : s.size ≤ 1000000) :
    Calls Tryd.prog 14 #[.string s] w fun e w' => e = .returned (.int .i64 (blm.full s.data.toList : Nat)) ∧ w = w' := by
  have hc := blm.cnt_full s.data.toList
  rw [crcm.size_len] at hc
  have Hc := Lib.hid hc
  clear hc
  go_enter Tryd.func14, Tryd.ntmps14
  go_wp2
  go_loop [3, 4] (fun n i => ∃ k c : Nat, k ≤ 8 * s.size ∧ i = .int .i64 k ∧ n = .int .i64 (c : Int) ∧ c ≤ k ∧ c = blm.cnt s.data.toList k) (fun _ i => 8 * s.size - (intOf i).toNat)
  case atStart => exact ⟨0, 0, Nat.zero_le _, rfl, rfl, Nat.le_refl _, rfl⟩
  case round =>
    obtain ⟨k, c, hk, rfl, rfl, hck, hce⟩ := hrel
    have HC := Lib.hid hce
    clear hce
    by_cases hlt : k < 8 * s.size
    · have hbc := bit_any s k w hs hlt
      obtain ⟨g, hg⟩ : ∃ g, blm.getB s.data.toList k = g := ⟨_, rfl⟩
      rw [hg] at hbc
      have hstep : blm.cnt s.data.toList (k + 1) = c + g.toNat := by rw [HC.out, ← hg]; rfl
      have HS := Lib.hid hstep
      have HB := Lib.hid hbc
      clear hstep hbc hg
      cases g
      · go_wp2_with (go_at_call 23; refine HB.out.mono ?_; rintro e w' ⟨rfl, rfl⟩)
        go_round
        case rel => exact ⟨k + 1, c, by omega, by go_num, rfl, by omega, by rw [HS.out]; rfl⟩
        case measure => simp [intOf]; omega
      · go_wp2_with (go_at_call 23; refine HB.out.mono ?_; rintro e w' ⟨rfl, rfl⟩)
        go_round
        case rel => exact ⟨k + 1, c + 1, by omega, by go_num, by go_num, by omega, by rw [HS.out]; rfl⟩
        case measure => simp [intOf]; omega
    · obtain rfl : k = 8 * s.size := by omega
      go_wp2
      go_ret
      exact ⟨ret_of (slot_i64 (by rw [HC.out, Hc.out])), rfl⟩

theorem pop_tab : ∀ n : Fin 256, (Lib.pop8tab.data.toList.getD n.val 0).toNat = blm.pop (UInt8.ofNat n.val) := by decide +kernel
set_option maxRecDepth 100000 in
set_option maxHeartbeats 1000000 in
theorem ones_any (b : UInt8) (w : World) :
    Calls Tryd.prog 22 #[.int .u8 (b.toNat : Int)] w fun e w' => e = .returned (.int .i64 (blm.pop b : Nat)) ∧ w = w' := by
  have hx : b.toNat < 256 := b.toNat_lt
  have ht := pop_tab ⟨b.toNat, hx⟩
  have he : UInt8.ofNat b.toNat = b := by simp
  rw [he] at ht
  simp only at ht
  have Ht := Lib.hid ht
  have hl := blm.pop_le b
  clear ht he
  obtain ⟨x, hxe⟩ : ∃ x, b.toNat = x := ⟨_, rfl⟩
  rw [hxe] at hx Ht ⊢
  clear hxe
  go_enter Tryd.func22, Tryd.ntmps22
  go_wp2
  rename_i hxs
  go_ret
  refine ⟨ret_of (slot_i64 ?_), rfl⟩
  have h1 : Lib.pop8tab[x] = Lib.pop8tab.data.toList.getD x 0 := byte_at Lib.pop8tab x hxs
  rw [h1]
  rw [Ht.out]
  exact IntWalk.wrap64_in _ ⟨by omega, by omega⟩

set_option maxHeartbeats 1000000 in
theorem full_any (s : ByteArray) (w : World) (hs : s.size ≤ 1000000) :
    Calls Tryd.prog 13 #[.string s] w fun e w' => e = .returned (.int .i64 (blm.full s.data.toList : Nat)) ∧ Below w.heap.size w w' := by
  have hconv := Lib.run_convert_string_bytes (P := Tryd.prog) w 9 38 5 s Tryd.underlying9 Tryd.underlying38 Tryd.underlying5
  have hcell := fun k hk => Lib.bytesWorld_cell w 5 s k hk
  have hb := below_bytesWorld w 5 s
  obtain ⟨w1, hw1⟩ : ∃ w1, Lib.bytesWorld w 5 s = w1 := ⟨_, rfl⟩
  rw [hw1] at hconv hcell hb
  clear hw1
  have Hl := Lib.hid (crcm.size_len s)
  go_enter Tryd.func13, Tryd.ntmps13
  go_wp2
  go_loop [2, 4, 8] (fun n _ i => ∃ k c : Nat, k ≤ s.size ∧ i = .int .i64 k ∧ n = .int .i64 (c : Int) ∧ c ≤ 8 * k ∧ c = blm.full (s.data.toList.take k)) (fun _ _ i => s.size - (intOf i).toNat)
  case atStart => exact ⟨0, 0, Nat.zero_le _, rfl, rfl, Nat.le_refl _, rfl⟩
  case round =>
    obtain ⟨k, c, hk, rfl, rfl, hck, hce⟩ := hrel
    have HC := Lib.hid hce
    clear hce
    by_cases hlt : k < s.size
    · have hc := hcell k hlt
      have hstep := blm.full_take s.data.toList k (by rw [Hl.out]; exact hlt)
      rw [← HC.out] at hstep
      obtain ⟨b, hbe⟩ : ∃ b : UInt8, s.data.toList.getD k 0 = b := ⟨_, rfl⟩
      rw [hbe] at hc hstep
      have hpl := blm.pop_le b
      have HS := Lib.hid hstep
      clear hcell hbe hstep hconv
      go_wp2_with (go_at_call 22; refine (ones_any b _).mono ?_; rintro e w' ⟨rfl, rfl⟩)
      go_round
      case rel => exact ⟨k + 1, c + blm.pop b, by omega, by go_num, slot_i64 (by omega), by omega, HS.out.symm⟩
      case measure => simp [intOf]; omega
    · clear hcell hconv
      have hfin : c = blm.full s.data.toList := by rw [HC.out, List.take_of_length_le (by rw [Hl.out]; omega)]
      have Hf := Lib.hid hfin
      clear hfin
      go_wp2
      go_ret
      exact ⟨ret_of (slot_i64 (by rw [Hf.out])), hb⟩
end Go.Proofs.YtckchihdeimgpaaDoor
