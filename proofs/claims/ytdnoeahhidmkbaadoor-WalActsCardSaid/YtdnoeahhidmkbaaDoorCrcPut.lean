/- Putting a text, and the two ways to reckon a sum, walked. -/
import Derived.Test.YtdnoeahhidmkbaaDoorCrcMore
import Derived.Test.YtdnoeahhidmkbaaDoorCrcText
namespace Go.Proofs.YtdnoeahhidmkbaaDoor
open Go Go.RowKit
set_option maxRecDepth 100000

theorem u8_int (x : Int) (h0 : 0 ≤ x) (h1 : x < 256) : ((crcm.u8 x.toNat).toNat : Int) = x := by
  rw [crcm.u8_val (by omega)]; omega
/-- string(b) over a block that was just laid -/
theorem run_str2 {P : Program} (src dst e : TypeId) (hs : P.underlying src = some (.slice e)) (he : P.underlying e = some (.int .u8)) (hd : P.underlying dst = some .string)
    (x y : Int) (hx : 0 ≤ x ∧ x < 256) (hy : 0 ≤ y ∧ y < 256) (w : World) :
    (convert src dst (.slice (some ⟨w.heap.size, 0, none⟩) 2 2)).run P (w.alloc (.cells #[.int .u8 x, .int .u8 y] e)) = .ok (.string (crcm.mk [crcm.u8 x.toNat, crcm.u8 y.toNat])) (w.alloc (.cells #[.int .u8 x, .int .u8 y] e)) := by
  refine run_convert_bytes_back _ src dst e ⟨w.heap.size, 0, none⟩ 2 [crcm.u8 x.toNat, crcm.u8 y.toNat] hs he hd ?_
  intro j hj
  match j, hj with
  | 0, _ => simp [Addr.add, u8_int x hx.1 hx.2]
  | 1, _ => simp [Addr.add, u8_int y hy.1 hy.2]
theorem run_str4 {P : Program} (src dst e : TypeId) (hs : P.underlying src = some (.slice e)) (he : P.underlying e = some (.int .u8)) (hd : P.underlying dst = some .string)
    (x y z t : Int) (hx : 0 ≤ x ∧ x < 256) (hy : 0 ≤ y ∧ y < 256) (hz : 0 ≤ z ∧ z < 256) (ht : 0 ≤ t ∧ t < 256) (w : World) :
    (convert src dst (.slice (some ⟨w.heap.size, 0, none⟩) 4 4)).run P (w.alloc (.cells #[.int .u8 x, .int .u8 y, .int .u8 z, .int .u8 t] e)) =
      .ok (.string (crcm.mk [crcm.u8 x.toNat, crcm.u8 y.toNat, crcm.u8 z.toNat, crcm.u8 t.toNat])) (w.alloc (.cells #[.int .u8 x, .int .u8 y, .int .u8 z, .int .u8 t] e)) := by
  refine run_convert_bytes_back _ src dst e ⟨w.heap.size, 0, none⟩ 4 [crcm.u8 x.toNat, crcm.u8 y.toNat, crcm.u8 z.toNat, crcm.u8 t.toNat] hs he hd ?_
  intro j hj
  match j, hj with
  | 0, _ => simp [Addr.add, u8_int x hx.1 hx.2]
  | 1, _ => simp [Addr.add, u8_int y hy.1 hy.2]
  | 2, _ => simp [Addr.add, u8_int z hz.1 hz.2]
  | 3, _ => simp [Addr.add, u8_int t ht.1 ht.2]

theorem sum_any (s : ByteArray) (w : World) (hs : s.size ≤ maxLen) (ht : TabAt w) :
    Calls Tryd.prog 104 #[.string s] w fun e w' => e = .returned (.int .u32 (crcm.sum s.data.toList : Nat)) ∧ Below w.heap.size w w' := by
  go_enter Tryd.func104, Tryd.ntmps104
  go_wp2_with (go_at_call 103; refine (more_any 0 s _ (by decide) hs ht).mono ?_; rintro e w' ⟨rfl, hb⟩)
  go_ret
  exact ⟨rfl, hb⟩

theorem four_any (n : Nat) (w : World) (hn : n < 4294967296) :
    Calls Tryd.prog 96 #[.int .u32 (n : Int)] w fun e w' => e = .returned (.string (crcm.mk (crcm.fourB n))) ∧ Below w.heap.size w w' := by
  have h4 := fun w => run_str4 (P := Tryd.prog) 37 9 5 Tryd.underlying37 Tryd.underlying5 Tryd.underlying9 ((n : Int) % 256) ((n : Int) / 256 % 256) ((n : Int) / 65536 % 256) ((n : Int) / 16777216) (by omega) (by omega) (by omega) (by omega) w
  have hfin : crcm.mk [crcm.u8 ((n : Int) % 256).toNat, crcm.u8 ((n : Int) / 256 % 256).toNat, crcm.u8 ((n : Int) / 65536 % 256).toNat, crcm.u8 ((n : Int) / 16777216).toNat] = crcm.mk (crcm.fourB n) := by
    unfold crcm.fourB
    rw [show ((n : Int) % 256).toNat = n % 256 from by omega, show ((n : Int) / 256 % 256).toNat = n / 256 % 256 from by omega, show ((n : Int) / 65536 % 256).toNat = n / 65536 % 256 from by omega, show ((n : Int) / 16777216).toNat = n / 16777216 from by omega]
  rw [hfin] at h4
  clear hfin
  go_enter Tryd.func96, Tryd.ntmps96
  go_wp2
  go_ret
  exact ⟨rfl, (Below.refl _ _).alloc (Nat.le_refl _) _⟩


theorem le2_mk (n : Nat) : crcm.mk [crcm.u8 ((n : Int) % 256).toNat, crcm.u8 ((n : Int) / 256).toNat] = crcm.mk (crcm.le2 n) := by
  unfold crcm.le2
  rw [show ((n : Int) % 256).toNat = n % 256 from by omega, show ((n : Int) / 256).toNat = n / 256 from by omega]
theorem four_mk (n : Nat) : crcm.mk [crcm.u8 ((n : Int) % 256).toNat, crcm.u8 ((n : Int) / 256 % 256).toNat, crcm.u8 ((n : Int) / 65536 % 256).toNat, crcm.u8 ((n : Int) / 16777216).toNat] = crcm.mk (crcm.fourB n) := by
  unfold crcm.fourB
  rw [show ((n : Int) % 256).toNat = n % 256 from by omega, show ((n : Int) / 256 % 256).toNat = n / 256 % 256 from by omega, show ((n : Int) / 65536 % 256).toNat = n / 65536 % 256 from by omega, show ((n : Int) / 16777216).toNat = n / 16777216 from by omega]

set_option maxHeartbeats 1000000 in
theorem put_fits (s : ByteArray) (w : World) (hs : s.size ≤ 65535) (ht : TabAt w) :
    Calls Tryd.prog 92 #[.string s] w fun e w' => e = .returned (.tuple #[.string (crcm.mk (crcm.put s.data.toList).1), .int .i64 ((crcm.put s.data.toList).2 : Nat)]) ∧ Below w.heap.size w w' := by
  have h2 := fun w => run_str2 (P := Tryd.prog) 37 9 5 Tryd.underlying37 Tryd.underlying5 Tryd.underlying9 ((s.size : Int) % 256) ((s.size : Int) / 256) (by omega) (by omega) w
  rw [le2_mk] at h2
  have hb1 : ∀ o, Below w.heap.size w (w.alloc o) := fun o => (Below.refl _ w).alloc (Nat.le_refl _) o
  have ht1 : ∀ o, TabAt (w.alloc o) := fun o => ht.below (hb1 o) ht.1
  go_enter Tryd.func92, Tryd.ntmps92
  go_wp2_with fail
  refine (sum_any _ _ (by rw [crcm.mk_size, crcm.le2_len]; unfold maxLen; omega) (ht1 _)).mono ?_
  rintro e w1 ⟨rfl, hb2⟩
  rw [crcm.mk_toList]
  have ht2 := (ht1 _).below hb2 (Nat.lt_of_lt_of_le ht.1 (hb1 _).size)
  obtain ⟨x, hx⟩ : ∃ x, crcm.sum (crcm.le2 s.size) = x := ⟨_, rfl⟩
  have hxl : x < 4294967296 := by rw [← hx]; exact crcm.more_lt _ _
  rw [hx]
  have Hx := Lib.hid hx
  clear hx
  go_wp2_with fail
  refine (more_any x s w1 hxl (by unfold maxLen; omega) ht2).mono ?_
  rintro e w2 ⟨rfl, hb3⟩
  obtain ⟨y, hy⟩ : ∃ y, crcm.more x s.data.toList = y := ⟨_, rfl⟩
  have hyl : y < 4294967296 := by rw [← hy]; exact crcm.more_lt _ _
  rw [hy]
  have Hy := Lib.hid hy
  clear hy
  have h4 := fun w => run_str4 (P := Tryd.prog) 37 9 5 Tryd.underlying37 Tryd.underlying5 Tryd.underlying9 ((y : Int) % 256) ((y : Int) / 256 % 256) ((y : Int) / 65536 % 256) ((y : Int) / 16777216) (by omega) (by omega) (by omega) (by omega) w
  rw [four_mk] at h4
  have z2 : (crcm.mk (crcm.le2 s.size)).size ≤ 100 := by rw [crcm.mk_size, crcm.le2_len]; omega
  have z4 : (crcm.mk (crcm.fourB y)).size ≤ 100 := by rw [crcm.mk_size, crcm.fourB_len]; omega
  go_wp2_with fail
  go_ret2
  have hl := crcm.size_len s
  have hfin : crcm.put s.data.toList = (crcm.le2 s.size ++ crcm.fourB y ++ s.data.toList, 0) := by
    unfold crcm.put crcm.body
    rw [if_neg (by omega), hl, ← Hy.out, ← Hx.out, crcm.more_sum]
  rw [hfin]
  refine ⟨?_, ?_⟩
  · conv => lhs; rw [← crcm.mk_of s]
    rw [crcm.mk_append, crcm.mk_append, crcm.mk_size, hl]
    rfl
  · exact ((((hb1 _).trans (hb2.mono (by simp))).trans (hb3.mono (by have := hb2.size; simp at this; omega))).alloc (by have := hb2.size; have := hb3.size; simp at *; omega) _)

theorem put_wide (s : ByteArray) (w : World) (hs : 65535 < s.size) (hs2 : s.size ≤ maxLen) :
    Calls Tryd.prog 92 #[.string s] w fun e w' => e = .returned (.tuple #[.string (crcm.mk (crcm.put s.data.toList).1), .int .i64 ((crcm.put s.data.toList).2 : Nat)]) ∧ Below w.heap.size w w' := by
  have hl := crcm.size_len s
  have hfin : crcm.put s.data.toList = ([], 71) := by
    unfold crcm.put
    rw [if_pos (by omega)]
  rw [hfin]
  clear hfin hl
  unfold maxLen at hs2
  go_enter Tryd.func92, Tryd.ntmps92
  go_wp2_with fail
  go_ret2
  exact ⟨rfl, Below.refl _ _⟩
theorem put_any (s : ByteArray) (w : World) (hs : s.size ≤ maxLen) (ht : TabAt w) :
    Calls Tryd.prog 92 #[.string s] w fun e w' => e = .returned (.tuple #[.string (crcm.mk (crcm.put s.data.toList).1), .int .i64 ((crcm.put s.data.toList).2 : Nat)]) ∧ Below w.heap.size w w' := by
  by_cases h : s.size ≤ 65535
  · exact put_fits s w h ht
  · exact put_wide s w (by omega) hs

set_option maxHeartbeats 1000000 in
theorem rmore_any (n : Nat) (s : ByteArray) (w : World) (hn : n < 4294967296) (hs : s.size ≤ maxLen) :
    Calls Tryd.prog 106 #[.int .u32 (n : Int), .string s] w fun e w' => e = .returned (.int .u32 (crcm.more n s.data.toList : Nat)) ∧ w = w' := by
  unfold maxLen at hs
  have hlen : s.data.toList.length = s.size := crcm.size_len s
  have Hlen := Lib.hid hlen
  clear hlen
  obtain ⟨m, hm⟩ : ∃ m, 4294967295 - n = m := ⟨_, rfl⟩
  have hm4 : m < 4294967296 := by omega
  have hmi : (4294967295 : Int) - (n : Int) = (m : Int) := by omega
  have Hm := Lib.hid hm
  have Hmi := Lib.hid hmi
  clear hm hmi
  go_enter Tryd.func106, Tryd.ntmps106
  go_wp2
  go_loop [5, 6, 7] (fun x i _ => ∃ k L : Nat, k ≤ s.size ∧ i = .int .i64 k ∧ x = .int .u32 (L : Int) ∧ L < 4294967296 ∧ L = crcm.loop m (s.data.toList.take k)) (fun _ i _ => s.size - (intOf i).toNat)
  case atStart => exact ⟨0, m, Nat.zero_le _, rfl, slot_u32 Hmi.out, hm4, rfl⟩
  case round =>
    obtain ⟨k, L, hk, rfl, rfl, hL, hLe⟩ := hrel
    have HL := Lib.hid hLe
    clear hLe
    by_cases hlt : k < s.size
    · have hsnoc := take_snoc8 s.data.toList k (by rw [Hlen.out]; exact hlt)
      have hget : s[k] = s.data.toList.getD k 0 := by
        rw [List.getD_eq_getElem?_getD, List.getElem?_eq_getElem (by rw [Hlen.out]; exact hlt)]; rfl
      obtain ⟨b, hb8⟩ : ∃ b : UInt8, s.data.toList.getD k 0 = b := ⟨_, rfl⟩
      rw [hb8] at hget hsnoc
      clear hb8
      have hbt : b.toNat < 256 := b.toNat_lt
      have hmod : (b.toNat : Int) % 4294967296 = b.toNat := by omega
      have e1 := u32_xor_nat L b.toNat hL (by omega)
      have hx1 := crcm.xor_lt hL (crcm.u8_lt b)
      obtain ⟨x1, hx1e⟩ : ∃ x, L ^^^ b.toNat = x := ⟨_, rfl⟩
      rw [hx1e] at e1 hx1
      have H : Hid (crcm.bits1 8 x1 = crcm.loop m (s.data.toList.take (k + 1))) := by
        show crcm.bits1 8 x1 = _
        rw [hsnoc, crcm.loop_snoc, ← HL.out, crcm.byte1_bits, hx1e]
      clear hsnoc hx1e
      go_wp2
      go_loop [5, 7] (fun x i => ∃ j y : Nat, j ≤ 8 ∧ i = .int .i64 j ∧ x = .int .u32 (y : Int) ∧ y < 4294967296 ∧ y = crcm.bits1 j x1) (fun _ i => 8 - (intOf i).toNat)
      case atStart => exact ⟨0, x1, Nat.zero_le _, rfl, rfl, hx1, rfl⟩
      case round =>
        obtain ⟨j, y, hj, rfl, rfl, hy, hye⟩ := hrel
        have HY := Lib.hid hye
        clear hye hmod e1 hget
        by_cases hj8 : j < 8
        · by_cases hodd : y % 2 = 1
          · have hx := u32_xor_nat (y / 2) 3988292384 (by omega) (by decide)
            have hq : (y : Int) / 2 = ((y / 2 : Nat) : Int) := by omega
            have hx' : bits .xor .u32 ((y : Int) / 2) 3988292384 = ((crcm.bit1 y : Nat) : Int) := by
              unfold crcm.bit1; rw [if_pos hodd, hq]; exact hx
            have hby := crcm.bit1_lt hy
            have ho : ((y : Int) % 2 == 1) = true := by rw [beq_iff_eq]; omega
            clear hx hq
            have hodd' : (y : Int) % 2 = 1 := by omega
            have HO := Lib.hid hodd
            clear hodd
            go_wp2
            go_round
            case rel => exact ⟨j + 1, crcm.bit1 y, by omega, by go_num, rfl, hby, by rw [HY.out]; rfl⟩
            case measure => simp [intOf]; omega
          · have hx' : (y : Int) / 2 = ((crcm.bit1 y : Nat) : Int) := by
              unfold crcm.bit1; rw [if_neg hodd]; omega
            have hby := crcm.bit1_lt hy
            have HX := Lib.hid hx'
            clear hx'
            have ho : ((y : Int) % 2 == 1) = false := by rw [beq_eq_false_iff_ne]; omega
            go_wp2
            go_round
            case rel => exact ⟨j + 1, crcm.bit1 y, by omega, by go_num, slot_u32 HX.out, hby, by rw [HY.out]; rfl⟩
            case measure => simp [intOf]; omega
        · obtain rfl : j = 8 := by omega
          go_wp2
          go_round
          case rel => exact ⟨k + 1, y, by omega, by go_num, rfl, hy, by rw [HY.out, H.out]⟩
          case measure => simp [intOf]; omega
    · have hfin : Value.int .u32 (4294967295 - (L : Int)) = Value.int .u32 (crcm.more n s.data.toList : Nat) := by
        apply slot_u32
        have : crcm.more n s.data.toList = 4294967295 - L := by
          rw [HL.out, List.take_of_length_le (by rw [Hlen.out]; omega), ← Hm.out]; rfl
        rw [this]; omega
      have Hfin := Lib.hid hfin
      clear hfin
      go_wp2
      go_ret
      exact ⟨ret_of Hfin.out, rfl⟩
end Go.Proofs.YtdnoeahhidmkbaaDoor
