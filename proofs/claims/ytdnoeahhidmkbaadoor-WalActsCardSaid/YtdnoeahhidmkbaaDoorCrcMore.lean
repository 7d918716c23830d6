/- The two ways to reckon a sum, crc.More and the document's More, walked: each comes to the plain sum of Math. -/
import Derived.Test.YtdnoeahhidmkbaaDoorProg
import Derived.Test.YtdnoeahhidmkbaaDoorCrcMath
import Derived.WalkKit
import Derived.WalkLawsBesides
import Derived.WalkSpells
import Derived.Lib.ConvBytes
import Derived.Lib.Hide
import Derived.BigQuiet
import Derived.Deep.QuietTactic
namespace Go.Proofs.YtdnoeahhidmkbaaDoor
open Go Go.RowKit
set_option maxRecDepth 100000

/-- the table of the sums lies in the program's variable -/
def TabAt (w : World) : Prop := 0 < w.heap.size ∧ ∀ i, i < 16 → w.cell? ⟨0, i, none⟩ = some (.int .u32 ((crcm.tab.getD i 0 : Nat) : Int))
theorem TabAt.below {w w' : World} {B : Nat} (h : TabAt w) (hb : Below B w w') (hB : 0 < B) : TabAt w' :=
  ⟨by have := hb.size; have := h.1; omega, fun i hi => (hb.cell (p := ⟨0, i, none⟩) hB).trans (h.2 i hi)⟩

theorem below_bytesWorld (w : World) (e : TypeId) (s : ByteArray) : Below w.heap.size w (Lib.bytesWorld w e s) :=
  ⟨rfl, rfl, rfl, by rw [Lib.bytesWorld_size]; omega, fun k hk => Lib.bytesWorld_at_old w e s k hk⟩

theorem u32_flip (n : Nat) (h : n < 4294967296) : bits .xor .u32 IntKind.u32.max (n : Int) = ((4294967295 - n : Nat) : Int) := by
  rw [show IntKind.u32.max = ((4294967295 : Nat) : Int) from rfl, u32_xor_nat _ _ (by decide) h]
  congr 1
  apply Nat.eq_of_testBit_eq
  intro i
  have h32 : (4294967295 : Nat) = 2 ^ 32 - 1 := by decide
  rw [Nat.testBit_xor, h32, Nat.testBit_two_pow_sub_one, show 2 ^ 32 - 1 - n = 2 ^ 32 - (n + 1) from by omega, Nat.testBit_two_pow_sub_succ (by omega)]
  by_cases hi : i < 32
  · simp [hi]
  · have : n.testBit i = false := Nat.testBit_lt_two_pow (Nat.lt_of_lt_of_le h (by rw [show (4294967296 : Nat) = 2 ^ 32 from rfl]; exact Nat.pow_le_pow_right (by decide) (by omega)))
    simp [hi, this]
theorem u32_mask (n : Nat) (h : n < 4294967296) : bits .and .u32 (n : Int) 15 = ((n % 16 : Nat) : Int) := by
  rw [show (15 : Int) = ((15 : Nat) : Int) from rfl, u32_and_nat _ _ h (by decide), nat_mask4]
theorem u32_xor_div (x t : Nat) (hx : x < 4294967296) (ht : t < 4294967296) : bits .xor .u32 ((x : Int) / 16) (t : Int) = ((x / 16 ^^^ t : Nat) : Int) := by
  rw [show (x : Int) / 16 = ((x / 16 : Nat) : Int) from by omega, u32_xor_nat _ _ (by omega) ht]
theorem take_snoc8 (l : List UInt8) (k : Nat) (h : k < l.length) : l.take (k + 1) = l.take k ++ [l.getD k 0] := by
  rw [List.take_succ_eq_append_getElem h]
  simp [List.getD, h]
theorem tab_lt (i : Nat) : crcm.tab.getD i 0 < 4294967296 := by
  have hall : ∀ x ∈ crcm.tab, x < 4294967296 := by decide
  rw [List.getD_eq_getElem?_getD]
  cases h : crcm.tab[i]? with
  | none => simp
  | some x => exact hall x (List.mem_of_getElem? h)
theorem slot_u32 {a b : Int} (h : a = b) : Value.int .u32 a = Value.int .u32 b := by rw [h]
theorem slot_i64 {a b : Int} (h : a = b) : Value.int .i64 a = Value.int .i64 b := by rw [h]
theorem ret_of {a b : Value} (h : a = b) : Ending.returned a = Ending.returned b := by rw [h]

set_option maxHeartbeats 1000000 in
/-- crc.More: four bits at a time, by the table. -/
theorem more_any (n : Nat) (s : ByteArray) (w : World) (hn : n < 4294967296) (hs : s.size ≤ maxLen) (ht : TabAt w) :
    Calls Tryd.prog 103 #[.int .u32 (n : Int), .string s] w fun e w' => e = .returned (.int .u32 (crcm.more n s.data.toList : Nat)) ∧ Below w.heap.size w w' := by
  unfold maxLen at hs
  have hconv := Lib.run_convert_string_bytes (P := Tryd.prog) w 9 37 5 s Tryd.underlying9 Tryd.underlying37 Tryd.underlying5
  have hcell := fun k hk => Lib.bytesWorld_cell w 5 s k hk
  have ht1 := ht.below (below_bytesWorld w 5 s) ht.1
  have hb := below_bytesWorld w 5 s
  have hflip := u32_flip n hn
  obtain ⟨m, hm⟩ : ∃ m, 4294967295 - n = m := ⟨_, rfl⟩
  have hm4 : m < 4294967296 := by omega
  rw [hm] at hflip
  have Hm := Lib.hid hm
  clear hm
  obtain ⟨w1, hw1⟩ : ∃ w1, Lib.bytesWorld w 5 s = w1 := ⟨_, rfl⟩
  rw [hw1] at hconv hcell ht1 hb
  clear hw1
  have hlen : s.data.toList.length = s.size := by rw [Array.length_toList]; rfl
  have Hlen := Lib.hid hlen
  clear hlen
  go_enter Tryd.func103, Tryd.ntmps103
  go_wp2
  go_loop [5, 7, 13] (fun x _ i => ∃ k L : Nat, k ≤ s.size ∧ i = .int .i64 k ∧ x = .int .u32 (L : Int) ∧ L < 4294967296 ∧ L = crcm.loop m (s.data.toList.take k)) (fun _ _ i => s.size - (intOf i).toNat)
  case atStart => exact ⟨0, m, Nat.zero_le _, rfl, rfl, hm4, rfl⟩
  case round =>
    obtain ⟨k, L, hk, rfl, rfl, hL, hLe⟩ := hrel
    have HL := Lib.hid hLe
    clear hLe
    by_cases hlt : k < s.size
    · have hc := hcell k hlt
      have hsnoc := take_snoc8 s.data.toList k (by rw [Hlen.out]; exact hlt)
      obtain ⟨b, hb8⟩ : ∃ b : UInt8, s.data.toList.getD k 0 = b := ⟨_, rfl⟩
      rw [hb8] at hc hsnoc
      clear hcell hb8
      have hbt : b.toNat < 256 := b.toNat_lt
      have hmod : (b.toNat : Int) % 4294967296 = b.toNat := by omega
      have e1 := u32_xor_nat L b.toNat hL (by omega)
      have hx1 := crcm.xor_lt hL (crcm.u8_lt b)
      obtain ⟨x1, hx1e⟩ : ∃ x, L ^^^ b.toNat = x := ⟨_, rfl⟩
      rw [hx1e] at e1 hx1
      have e2 := u32_mask x1 hx1
      have c1 := ht1.2 (x1 % 16) (by omega)
      have e3 := u32_xor_div x1 (crcm.tab.getD (x1 % 16) 0) hx1 (tab_lt _)
      have hx2 : x1 / 16 ^^^ crcm.tab.getD (x1 % 16) 0 < 4294967296 := crcm.xor_lt (by omega) (tab_lt _)
      obtain ⟨t1, ht1e⟩ : ∃ t, crcm.tab.getD (x1 % 16) 0 = t := ⟨_, rfl⟩
      obtain ⟨i1, hi1e⟩ : ∃ i, x1 % 16 = i := ⟨_, rfl⟩
      have hi1 : i1 < 16 := by omega
      rw [ht1e] at e3 hx2 c1
      rw [hi1e] at e2 c1
      obtain ⟨x2, hx2e⟩ : ∃ x, x1 / 16 ^^^ t1 = x := ⟨_, rfl⟩
      rw [hx2e] at e3 hx2
      have e4 := u32_mask x2 hx2
      have c2 := ht1.2 (x2 % 16) (by omega)
      have e5 := u32_xor_div x2 (crcm.tab.getD (x2 % 16) 0) hx2 (tab_lt _)
      have hx3 : x2 / 16 ^^^ crcm.tab.getD (x2 % 16) 0 < 4294967296 := crcm.xor_lt (by omega) (tab_lt _)
      obtain ⟨t2, ht2e⟩ : ∃ t, crcm.tab.getD (x2 % 16) 0 = t := ⟨_, rfl⟩
      obtain ⟨i2, hi2e⟩ : ∃ i, x2 % 16 = i := ⟨_, rfl⟩
      have hi2 : i2 < 16 := by omega
      rw [ht2e] at e5 hx3 c2
      rw [hi2e] at e4 c2
      obtain ⟨x3, hx3e⟩ : ∃ x, x2 / 16 ^^^ t2 = x := ⟨_, rfl⟩
      rw [hx3e] at e5 hx3
      have H : Hid (x3 = crcm.loop m (s.data.toList.take (k + 1))) := by
        show x3 = _
        rw [hsnoc, crcm.loop_snoc, ← HL.out, crcm.byte1_nib, hx1e]
        unfold crcm.nib
        rw [ht1e, hx2e, ht2e, hx3e]
      clear hsnoc hx1e ht1e hi1e hx2e ht2e hi2e hx3e
      go_wp2
      go_round
      case rel => exact ⟨k + 1, x3, by omega, by go_num, rfl, hx3, H.out⟩
      case measure => simp [intOf]; omega
    · have hflip2 := u32_flip L hL
      clear hcell
      have hfin : (.int .u32 ((4294967295 - L : Nat) : Int)) = Value.int .u32 (crcm.more n s.data.toList : Nat) := by
        rw [HL.out, List.take_of_length_le (by rw [Hlen.out]; omega), ← Hm.out]; rfl
      obtain ⟨r, hr⟩ : ∃ r, 4294967295 - L = r := ⟨_, rfl⟩
      rw [hr] at hflip2 hfin
      have Hfin := Lib.hid hfin
      clear hfin hr
      go_wp2
      go_ret
      exact ⟨ret_of Hfin.out, hb⟩
end Go.Proofs.YtdnoeahhidmkbaaDoor
