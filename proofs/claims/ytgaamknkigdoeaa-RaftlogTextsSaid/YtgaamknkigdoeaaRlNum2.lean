/- Numbers out of bytes; the document's way. -/
import Derived.Test.YtgaamknkigdoeaaRlNum
import Derived.Laws.BitsAllLaws
import Derived.WalkLawsBesides
namespace Go.Proofs.Ytgaamknkigdoeaa
open Go Go.RowKit

theorem u64_or_join (i a b : Nat) (ha : a < 2 ^ i) (hb : b % 2 ^ i = 0) (ha4 : a < 18446744073709551616) (hb4 : b < 18446744073709551616) : bits .or .u64 (a : Int) (b : Int) = ((a + b : Nat) : Int) := by
  rw [u64_or_nat a b ha4 hb4, Nat.or_comm, nat_join i b a hb ha, Nat.add_comm]
theorem below_bytesWorld (w : World) (e : TypeId) (s : ByteArray) : Below w.heap.size w (Lib.bytesWorld w e s) :=
  ⟨rfl, rfl, rfl, by rw [Lib.bytesWorld_size]; omega, fun k hk => Lib.bytesWorld_at_old w e s k hk⟩

theorem orn1 (S : Nat) (b : UInt8) (h : S < 256) : bits .or .u64 (S : Int) ((b.toNat : Int) * 256) = ((S + 256 * b.toNat : Nat) : Int) ∧ S + 256 * b.toNat < 65536 := by
  have := b.toNat_lt
  refine ⟨?_, by omega⟩
  rw [show (b.toNat : Int) * 256 = ((256 * b.toNat : Nat) : Int) from by omega]
  exact u64_or_join 8 _ _ (by omega) (by omega) (by omega) (by omega)
theorem orn2 (S : Nat) (b : UInt8) (h : S < 65536) : bits .or .u64 (S : Int) ((b.toNat : Int) * 65536) = ((S + 65536 * b.toNat : Nat) : Int) ∧ S + 65536 * b.toNat < 16777216 := by
  have := b.toNat_lt
  refine ⟨?_, by omega⟩
  rw [show (b.toNat : Int) * 65536 = ((65536 * b.toNat : Nat) : Int) from by omega]
  exact u64_or_join 16 _ _ (by omega) (by omega) (by omega) (by omega)
theorem orn3 (S : Nat) (b : UInt8) (h : S < 16777216) : bits .or .u64 (S : Int) ((b.toNat : Int) * 16777216) = ((S + 16777216 * b.toNat : Nat) : Int) ∧ S + 16777216 * b.toNat < 4294967296 := by
  have := b.toNat_lt
  refine ⟨?_, by omega⟩
  rw [show (b.toNat : Int) * 16777216 = ((16777216 * b.toNat : Nat) : Int) from by omega]
  exact u64_or_join 24 _ _ (by omega) (by omega) (by omega) (by omega)
theorem orn4 (S : Nat) (b : UInt8) (h : S < 4294967296) : bits .or .u64 (S : Int) ((b.toNat : Int) * 4294967296) = ((S + 4294967296 * b.toNat : Nat) : Int) ∧ S + 4294967296 * b.toNat < 1099511627776 := by
  have := b.toNat_lt
  refine ⟨?_, by omega⟩
  rw [show (b.toNat : Int) * 4294967296 = ((4294967296 * b.toNat : Nat) : Int) from by omega]
  exact u64_or_join 32 _ _ (by omega) (by omega) (by omega) (by omega)
theorem orn5 (S : Nat) (b : UInt8) (h : S < 1099511627776) : bits .or .u64 (S : Int) ((b.toNat : Int) * 1099511627776) = ((S + 1099511627776 * b.toNat : Nat) : Int) ∧ S + 1099511627776 * b.toNat < 281474976710656 := by
  have := b.toNat_lt
  refine ⟨?_, by omega⟩
  rw [show (b.toNat : Int) * 1099511627776 = ((1099511627776 * b.toNat : Nat) : Int) from by omega]
  exact u64_or_join 40 _ _ (by omega) (by omega) (by omega) (by omega)
theorem orn6 (S : Nat) (b : UInt8) (h : S < 281474976710656) : bits .or .u64 (S : Int) ((b.toNat : Int) * 281474976710656) = ((S + 281474976710656 * b.toNat : Nat) : Int) ∧ S + 281474976710656 * b.toNat < 72057594037927936 := by
  have := b.toNat_lt
  refine ⟨?_, by omega⟩
  rw [show (b.toNat : Int) * 281474976710656 = ((281474976710656 * b.toNat : Nat) : Int) from by omega]
  exact u64_or_join 48 _ _ (by omega) (by omega) (by omega) (by omega)
theorem orn7 (S : Nat) (b : UInt8) (h : S < 72057594037927936) : bits .or .u64 (S : Int) ((b.toNat : Int) * 72057594037927936) = ((S + 72057594037927936 * b.toNat : Nat) : Int) ∧ S + 72057594037927936 * b.toNat < 18446744073709551616 := by
  have := b.toNat_lt
  refine ⟨?_, by omega⟩
  rw [show (b.toNat : Int) * 72057594037927936 = ((72057594037927936 * b.toNat : Nat) : Int) from by omega]
  exact u64_or_join 56 _ _ (by omega) (by omega) (by omega) (by omega)
set_option maxHeartbeats 4000000 in
theorem number_any (a b c d e f g h : UInt8) (w : World) :
    Calls Try.prog 32 #[.string (crcm.mk [a, b, c, d, e, f, g, h])] w fun e' w' => e' = .returned (.int .u64 (rl.num [a, b, c, d, e, f, g, h] : Nat)) ∧ Below w.heap.size w w' := by
  have hsz : (crcm.mk [a, b, c, d, e, f, g, h]).size = 8 := rfl
  have hconv := Lib.run_convert_string_bytes (P := Try.prog) w 9 71 5 (crcm.mk [a, b, c, d, e, f, g, h]) Try.underlying9 Try.underlying71 Try.underlying5
  rw [hsz] at hconv
  have hcell := fun k hk => Lib.bytesWorld_cell w 5 (crcm.mk [a, b, c, d, e, f, g, h]) k hk
  have c0 := hcell 0 (by rw [hsz]; decide)
  have c1 := hcell 1 (by rw [hsz]; decide)
  have c2 := hcell 2 (by rw [hsz]; decide)
  have c3 := hcell 3 (by rw [hsz]; decide)
  have c4 := hcell 4 (by rw [hsz]; decide)
  have c5 := hcell 5 (by rw [hsz]; decide)
  have c6 := hcell 6 (by rw [hsz]; decide)
  have c7 := hcell 7 (by rw [hsz]; decide)
  have hb := below_bytesWorld w 5 (crcm.mk [a, b, c, d, e, f, g, h])
  obtain ⟨w1, hw1⟩ : ∃ w1, Lib.bytesWorld w 5 (crcm.mk [a, b, c, d, e, f, g, h]) = w1 := ⟨_, rfl⟩
  rw [hw1] at hconv hb c0 c1 c2 c3 c4 c5 c6 c7
  clear hcell hw1
  rw [show (crcm.mk [a, b, c, d, e, f, g, h]).data.toList.getD 0 0 = a from rfl] at c0
  rw [show (crcm.mk [a, b, c, d, e, f, g, h]).data.toList.getD 1 0 = b from rfl] at c1
  rw [show (crcm.mk [a, b, c, d, e, f, g, h]).data.toList.getD 2 0 = c from rfl] at c2
  rw [show (crcm.mk [a, b, c, d, e, f, g, h]).data.toList.getD 3 0 = d from rfl] at c3
  rw [show (crcm.mk [a, b, c, d, e, f, g, h]).data.toList.getD 4 0 = e from rfl] at c4
  rw [show (crcm.mk [a, b, c, d, e, f, g, h]).data.toList.getD 5 0 = f from rfl] at c5
  rw [show (crcm.mk [a, b, c, d, e, f, g, h]).data.toList.getD 6 0 = g from rfl] at c6
  rw [show (crcm.mk [a, b, c, d, e, f, g, h]).data.toList.getD 7 0 = h from rfl] at c7
  have la : a.toNat < 256 := a.toNat_lt
  have lb : b.toNat < 256 := b.toNat_lt
  have lc : c.toNat < 256 := c.toNat_lt
  have ld : d.toNat < 256 := d.toNat_lt
  have le : e.toNat < 256 := e.toNat_lt
  have lf : f.toNat < 256 := f.toNat_lt
  have lg : g.toNat < 256 := g.toNat_lt
  have lh : h.toNat < 256 := h.toNat_lt
  have hfin := rl.num8 a b c d e f g h
  have o0 : bits .or .u64 0 (a.toNat : Int) = (a.toNat : Int) := by have := u64_or_join 0 0 a.toNat (by omega) (by omega) (by omega) (by omega); simpa using this
  have o1 := orn1 _ b la
  obtain ⟨S1, hS1⟩ : ∃ S, a.toNat + 256 * b.toNat = S := ⟨_, rfl⟩
  rw [hS1] at o1 hfin
  obtain ⟨o1, p1⟩ := o1
  clear hS1
  have o2 := orn2 _ c p1
  obtain ⟨S2, hS2⟩ : ∃ S, S1 + 65536 * c.toNat = S := ⟨_, rfl⟩
  rw [hS2] at o2 hfin
  obtain ⟨o2, p2⟩ := o2
  clear hS2
  have o3 := orn3 _ d p2
  obtain ⟨S3, hS3⟩ : ∃ S, S2 + 16777216 * d.toNat = S := ⟨_, rfl⟩
  rw [hS3] at o3 hfin
  obtain ⟨o3, p3⟩ := o3
  clear hS3
  have o4 := orn4 _ e p3
  obtain ⟨S4, hS4⟩ : ∃ S, S3 + 4294967296 * e.toNat = S := ⟨_, rfl⟩
  rw [hS4] at o4 hfin
  obtain ⟨o4, p4⟩ := o4
  clear hS4
  have o5 := orn5 _ f p4
  obtain ⟨S5, hS5⟩ : ∃ S, S4 + 1099511627776 * f.toNat = S := ⟨_, rfl⟩
  rw [hS5] at o5 hfin
  obtain ⟨o5, p5⟩ := o5
  clear hS5
  have o6 := orn6 _ g p5
  obtain ⟨S6, hS6⟩ : ∃ S, S5 + 281474976710656 * g.toNat = S := ⟨_, rfl⟩
  rw [hS6] at o6 hfin
  obtain ⟨o6, p6⟩ := o6
  clear hS6
  have o7 := orn7 _ h p6
  obtain ⟨S7, hS7⟩ : ∃ S, S6 + 72057594037927936 * h.toNat = S := ⟨_, rfl⟩
  rw [hS7] at o7 hfin
  obtain ⟨o7, p7⟩ := o7
  clear hS7
  have HF := Lib.hid hfin
  clear hfin
  go_enter Try.func32, Try.ntmps32
  go_wp2
  refine wp_loop_rounds 9 ?_
  rw [rounds_succ]
  go_wp2
  rw [rounds_succ]
  go_wp2
  rw [rounds_succ]
  go_wp2
  rw [rounds_succ]
  go_wp2
  rw [rounds_succ]
  go_wp2
  rw [rounds_succ]
  go_wp2
  rw [rounds_succ]
  go_wp2
  rw [rounds_succ]
  go_wp2
  rw [rounds_succ]
  go_wp2
  go_ret
  exact ⟨ret_of (slot_u64 (by rw [HF.out])), hb⟩

theorem byte_at (s : ByteArray) (k : Nat) (h : k < s.size) : s[k] = s.data.toList.getD k 0 := by
  rw [List.getD_eq_getElem?_getD, List.getElem?_eq_getElem (by rw [crcm.size_len]; exact h)]; rfl
set_option maxHeartbeats 4000000 in
theorem rnumber_any (s : ByteArray) (w : World) (h8 : 8 ≤ s.size) (hs : s.size ≤ maxLen) :
    Calls Try.prog 33 #[.string s] w fun e' w' => e' = .returned (.int .u64 (rl.num (s.data.toList.take 8) : Nat)) ∧ w = w' := by
  unfold maxLen at hs
  have g0 := byte_at s 0 (by omega)
  have g1 := byte_at s 1 (by omega)
  have g2 := byte_at s 2 (by omega)
  have g3 := byte_at s 3 (by omega)
  have g4 := byte_at s 4 (by omega)
  have g5 := byte_at s 5 (by omega)
  have g6 := byte_at s 6 (by omega)
  have g7 := byte_at s 7 (by omega)
  have hl := crcm.size_len s
  have ht : s.data.toList.take 8 = [s.data.toList.getD 0 0, s.data.toList.getD 1 0, s.data.toList.getD 2 0, s.data.toList.getD 3 0, s.data.toList.getD 4 0, s.data.toList.getD 5 0, s.data.toList.getD 6 0, s.data.toList.getD 7 0] := by
    apply List.ext_getElem
    · rw [List.length_take]; simp only [List.length_cons, List.length_nil]; omega
    · intro n h1 h2
      have hn : n < 8 := by simpa using h2
      have hg : ∀ k, (hk : k < s.data.toList.length) → s.data.toList[k] = s.data.toList.getD k 0 := fun k hk => by rw [List.getD_eq_getElem?_getD, List.getElem?_eq_getElem hk]; rfl
      rw [List.getElem_take, hg]
      have : n = 0 ∨ n = 1 ∨ n = 2 ∨ n = 3 ∨ n = 4 ∨ n = 5 ∨ n = 6 ∨ n = 7 := by omega
      rcases this with rfl | rfl | rfl | rfl | rfl | rfl | rfl | rfl <;> rfl
  obtain ⟨b0, hb0⟩ : ∃ b : UInt8, s.data.toList.getD 0 0 = b := ⟨_, rfl⟩
  rw [hb0] at g0 ht
  have l0 : b0.toNat < 256 := b0.toNat_lt
  clear hb0
  obtain ⟨b1, hb1⟩ : ∃ b : UInt8, s.data.toList.getD 1 0 = b := ⟨_, rfl⟩
  rw [hb1] at g1 ht
  have l1 : b1.toNat < 256 := b1.toNat_lt
  clear hb1
  obtain ⟨b2, hb2⟩ : ∃ b : UInt8, s.data.toList.getD 2 0 = b := ⟨_, rfl⟩
  rw [hb2] at g2 ht
  have l2 : b2.toNat < 256 := b2.toNat_lt
  clear hb2
  obtain ⟨b3, hb3⟩ : ∃ b : UInt8, s.data.toList.getD 3 0 = b := ⟨_, rfl⟩
  rw [hb3] at g3 ht
  have l3 : b3.toNat < 256 := b3.toNat_lt
  clear hb3
  obtain ⟨b4, hb4⟩ : ∃ b : UInt8, s.data.toList.getD 4 0 = b := ⟨_, rfl⟩
  rw [hb4] at g4 ht
  have l4 : b4.toNat < 256 := b4.toNat_lt
  clear hb4
  obtain ⟨b5, hb5⟩ : ∃ b : UInt8, s.data.toList.getD 5 0 = b := ⟨_, rfl⟩
  rw [hb5] at g5 ht
  have l5 : b5.toNat < 256 := b5.toNat_lt
  clear hb5
  obtain ⟨b6, hb6⟩ : ∃ b : UInt8, s.data.toList.getD 6 0 = b := ⟨_, rfl⟩
  rw [hb6] at g6 ht
  have l6 : b6.toNat < 256 := b6.toNat_lt
  clear hb6
  obtain ⟨b7, hb7⟩ : ∃ b : UInt8, s.data.toList.getD 7 0 = b := ⟨_, rfl⟩
  rw [hb7] at g7 ht
  have l7 : b7.toNat < 256 := b7.toNat_lt
  clear hb7
  have hfin := rl.num8 b0 b1 b2 b3 b4 b5 b6 b7
  rw [← ht] at hfin
  have HF := Lib.hid hfin
  have q1 : (1 : Int) < (s.size : Int) := by omega
  have q2 : (2 : Int) < (s.size : Int) := by omega
  have q3 : (3 : Int) < (s.size : Int) := by omega
  have q4 : (4 : Int) < (s.size : Int) := by omega
  have q5 : (5 : Int) < (s.size : Int) := by omega
  have q6 : (6 : Int) < (s.size : Int) := by omega
  have q7 : (7 : Int) < (s.size : Int) := by omega
  clear hfin hl ht
  go_enter Try.func33, Try.ntmps33
  go_wp2
  refine wp_loop_rounds 9 ?_
  rw [rounds_succ]
  go_wp2
  rw [rounds_succ]
  go_wp2
  rw [rounds_succ]
  go_wp2
  rw [rounds_succ]
  go_wp2
  rw [rounds_succ]
  go_wp2
  rw [rounds_succ]
  go_wp2
  rw [rounds_succ]
  go_wp2
  rw [rounds_succ]
  go_wp2
  rw [rounds_succ]
  go_wp2
  go_ret
  exact ⟨ret_of (slot_u64 (by rw [HF.out]; omega)), rfl⟩

theorem hmk8 (w : World) : (Instr.makeSlice 71 (.int .i64 8) (.int .i64 8)).run Try.prog w = .ok (.slice (some ⟨w.heap.size, 0, none⟩) 8 8) (w.alloc (.cells #[.int .u8 0, .int .u8 0, .int .u8 0, .int .u8 0, .int .u8 0, .int .u8 0, .int .u8 0, .int .u8 0] 5)) := by kernel_rfl
def zeros (k : Nat) : List Value := List.replicate k (.int .u8 0)
def rowN (n k : Nat) : List Value := le8V n k ++ zeros (8 - k)
theorem rowN_zero (n : Nat) : rowN n 0 = [.int .u8 0, .int .u8 0, .int .u8 0, .int .u8 0, .int .u8 0, .int .u8 0, .int .u8 0, .int .u8 0] := rfl
theorem rowN_eight (n : Nat) : rowN n 8 = le8V n 8 := by unfold rowN zeros; simp
theorem rowN_step0 (n m : Nat) (hm : m = n) : (rowN n 0)[0]? = some (.int .u8 0) ∧ (rowN n 0).set 0 (.int .u8 ((m : Int) % 256)) = rowN n 1 := by
  refine ⟨rfl, ?_⟩
  have : (.int .u8 ((m : Int) % 256) : Value) = byteV (UInt8.ofNat (n)) := by
    rw [byteV_of (n) (m : Int) (by rw [hm])]
  rw [this]
  rfl
theorem rowN_step1 (n m : Nat) (hm : m = n / 256) : (rowN n 1)[1]? = some (.int .u8 0) ∧ (rowN n 1).set 1 (.int .u8 ((m : Int) % 256)) = rowN n 2 := by
  refine ⟨rfl, ?_⟩
  have : (.int .u8 ((m : Int) % 256) : Value) = byteV (UInt8.ofNat (n / 256)) := by
    rw [byteV_of (n / 256) (m : Int) (by rw [hm])]
  rw [this]
  rfl
theorem rowN_step2 (n m : Nat) (hm : m = n / 65536) : (rowN n 2)[2]? = some (.int .u8 0) ∧ (rowN n 2).set 2 (.int .u8 ((m : Int) % 256)) = rowN n 3 := by
  refine ⟨rfl, ?_⟩
  have : (.int .u8 ((m : Int) % 256) : Value) = byteV (UInt8.ofNat (n / 65536)) := by
    rw [byteV_of (n / 65536) (m : Int) (by rw [hm])]
  rw [this]
  rfl
theorem rowN_step3 (n m : Nat) (hm : m = n / 16777216) : (rowN n 3)[3]? = some (.int .u8 0) ∧ (rowN n 3).set 3 (.int .u8 ((m : Int) % 256)) = rowN n 4 := by
  refine ⟨rfl, ?_⟩
  have : (.int .u8 ((m : Int) % 256) : Value) = byteV (UInt8.ofNat (n / 16777216)) := by
    rw [byteV_of (n / 16777216) (m : Int) (by rw [hm])]
  rw [this]
  rfl
theorem rowN_step4 (n m : Nat) (hm : m = n / 4294967296) : (rowN n 4)[4]? = some (.int .u8 0) ∧ (rowN n 4).set 4 (.int .u8 ((m : Int) % 256)) = rowN n 5 := by
  refine ⟨rfl, ?_⟩
  have : (.int .u8 ((m : Int) % 256) : Value) = byteV (UInt8.ofNat (n / 4294967296)) := by
    rw [byteV_of (n / 4294967296) (m : Int) (by rw [hm])]
  rw [this]
  rfl
theorem rowN_step5 (n m : Nat) (hm : m = n / 1099511627776) : (rowN n 5)[5]? = some (.int .u8 0) ∧ (rowN n 5).set 5 (.int .u8 ((m : Int) % 256)) = rowN n 6 := by
  refine ⟨rfl, ?_⟩
  have : (.int .u8 ((m : Int) % 256) : Value) = byteV (UInt8.ofNat (n / 1099511627776)) := by
    rw [byteV_of (n / 1099511627776) (m : Int) (by rw [hm])]
  rw [this]
  rfl
theorem rowN_step6 (n m : Nat) (hm : m = n / 281474976710656) : (rowN n 6)[6]? = some (.int .u8 0) ∧ (rowN n 6).set 6 (.int .u8 ((m : Int) % 256)) = rowN n 7 := by
  refine ⟨rfl, ?_⟩
  have : (.int .u8 ((m : Int) % 256) : Value) = byteV (UInt8.ofNat (n / 281474976710656)) := by
    rw [byteV_of (n / 281474976710656) (m : Int) (by rw [hm])]
  rw [this]
  rfl
theorem rowN_step7 (n m : Nat) (hm : m = n / 72057594037927936) : (rowN n 7)[7]? = some (.int .u8 0) ∧ (rowN n 7).set 7 (.int .u8 ((m : Int) % 256)) = rowN n 8 := by
  refine ⟨rfl, ?_⟩
  have : (.int .u8 ((m : Int) % 256) : Value) = byteV (UInt8.ofNat (n / 72057594037927936)) := by
    rw [byteV_of (n / 72057594037927936) (m : Int) (by rw [hm])]
  rw [this]
  rfl
set_option maxHeartbeats 4000000 in
theorem rnum_any (n : Nat) (w : World) (hn : n < 18446744073709551616) :
    Calls Try.prog 31 #[.int .u64 (n : Int), .bool false] w fun e w' => e = .returned (.string (crcm.mk (rl.le8 n))) ∧ Below w.heap.size w w' := by
  have hmk := hmk8
  have hb0 := below_alloc w (.cells #[.int .u8 0, .int .u8 0, .int .u8 0, .int .u8 0, .int .u8 0, .int .u8 0, .int .u8 0, .int .u8 0] 5)
  have hB0 := Blk.new w (rowN n 0) 5
  rw [rowN_zero] at hB0
  have HB0 := Lib.hid hB0
  have Hb0 := Lib.hid hb0
  clear hB0 hb0
  go_enter Try.func31, Try.ntmps31
  go_wp2
  go_loopw [0, 6] (fun x i wr => ∃ k m : Nat, k ≤ 8 ∧ i = .int .i64 k ∧ x = .int .u64 (m : Int) ∧ m = n / 256 ^ k ∧ Blk wr w.heap.size (rowN n k) 5 ∧ Below w.heap.size w wr) (fun _ i _ => 8 - (intOf i).toNat)
  case atStart => exact ⟨0, n, by omega, rfl, rfl, by simp, by rw [rowN_zero]; exact HB0.out, Hb0.out⟩
  case round =>
    obtain ⟨k, m, hk, rfl, rfl, hm, hB, hb⟩ := hrel
    have hc : k = 0 ∨ k = 1 ∨ k = 2 ∨ k = 3 ∨ k = 4 ∨ k = 5 ∨ k = 6 ∨ k = 7 ∨ k = 8 := by omega
    have HB := Lib.hid hB
    have hml : m < 18446744073709551616 := by rw [hm]; exact Nat.lt_of_le_of_lt (Nat.div_le_self _ _) hn
    have HM := Lib.hid hm
    clear hB hm
    rcases hc with rfl | rfl | rfl | rfl | rfl | rfl | rfl | rfl | rfl
    · have hm : m = n := by have := HM.out; simpa using this
      obtain ⟨hg, hset⟩ := rowN_step0 n m hm
      have c0 := HB.out.cell 0 _ hg
      have f0 := HB.out.free 0
      have HS := Lib.hid hset
      have Hm := Lib.hid hm
      clear hg hset hm
      go_wp2
      go_roundw
      case rel =>
        have hB2 := HB.out.set 0 (.int .u8 ((m : Int) % 256))
        rw [HS.out] at hB2
        exact ⟨1, m / 256, by omega, rfl, by first | rfl | exact slot_u64 (by omega), by rw [Hm.out]; first | done | simp [Nat.div_div_eq_div_mul], hB2, hb.setCell (p := ⟨w.heap.size, 0, none⟩) (Nat.le_refl _) _⟩
      case measure => simp [intOf]
    · have hm : m = n / 256 := by have := HM.out; simpa using this
      obtain ⟨hg, hset⟩ := rowN_step1 n m hm
      have c0 := HB.out.cell 1 _ hg
      have f0 := HB.out.free 1
      have HS := Lib.hid hset
      have Hm := Lib.hid hm
      clear hg hset hm
      go_wp2
      go_roundw
      case rel =>
        have hB2 := HB.out.set 1 (.int .u8 ((m : Int) % 256))
        rw [HS.out] at hB2
        exact ⟨2, m / 256, by omega, rfl, by first | rfl | exact slot_u64 (by omega), by rw [Hm.out]; first | done | simp [Nat.div_div_eq_div_mul], hB2, hb.setCell (p := ⟨w.heap.size, 1, none⟩) (Nat.le_refl _) _⟩
      case measure => simp [intOf]
    · have hm : m = n / 65536 := by have := HM.out; simpa using this
      obtain ⟨hg, hset⟩ := rowN_step2 n m hm
      have c0 := HB.out.cell 2 _ hg
      have f0 := HB.out.free 2
      have HS := Lib.hid hset
      have Hm := Lib.hid hm
      clear hg hset hm
      go_wp2
      go_roundw
      case rel =>
        have hB2 := HB.out.set 2 (.int .u8 ((m : Int) % 256))
        rw [HS.out] at hB2
        exact ⟨3, m / 256, by omega, rfl, by first | rfl | exact slot_u64 (by omega), by rw [Hm.out]; first | done | simp [Nat.div_div_eq_div_mul], hB2, hb.setCell (p := ⟨w.heap.size, 2, none⟩) (Nat.le_refl _) _⟩
      case measure => simp [intOf]
    · have hm : m = n / 16777216 := by have := HM.out; simpa using this
      obtain ⟨hg, hset⟩ := rowN_step3 n m hm
      have c0 := HB.out.cell 3 _ hg
      have f0 := HB.out.free 3
      have HS := Lib.hid hset
      have Hm := Lib.hid hm
      clear hg hset hm
      go_wp2
      go_roundw
      case rel =>
        have hB2 := HB.out.set 3 (.int .u8 ((m : Int) % 256))
        rw [HS.out] at hB2
        exact ⟨4, m / 256, by omega, rfl, by first | rfl | exact slot_u64 (by omega), by rw [Hm.out]; first | done | simp [Nat.div_div_eq_div_mul], hB2, hb.setCell (p := ⟨w.heap.size, 3, none⟩) (Nat.le_refl _) _⟩
      case measure => simp [intOf]
    · have hm : m = n / 4294967296 := by have := HM.out; simpa using this
      obtain ⟨hg, hset⟩ := rowN_step4 n m hm
      have c0 := HB.out.cell 4 _ hg
      have f0 := HB.out.free 4
      have HS := Lib.hid hset
      have Hm := Lib.hid hm
      clear hg hset hm
      go_wp2
      go_roundw
      case rel =>
        have hB2 := HB.out.set 4 (.int .u8 ((m : Int) % 256))
        rw [HS.out] at hB2
        exact ⟨5, m / 256, by omega, rfl, by first | rfl | exact slot_u64 (by omega), by rw [Hm.out]; first | done | simp [Nat.div_div_eq_div_mul], hB2, hb.setCell (p := ⟨w.heap.size, 4, none⟩) (Nat.le_refl _) _⟩
      case measure => simp [intOf]
    · have hm : m = n / 1099511627776 := by have := HM.out; simpa using this
      obtain ⟨hg, hset⟩ := rowN_step5 n m hm
      have c0 := HB.out.cell 5 _ hg
      have f0 := HB.out.free 5
      have HS := Lib.hid hset
      have Hm := Lib.hid hm
      clear hg hset hm
      go_wp2
      go_roundw
      case rel =>
        have hB2 := HB.out.set 5 (.int .u8 ((m : Int) % 256))
        rw [HS.out] at hB2
        exact ⟨6, m / 256, by omega, rfl, by first | rfl | exact slot_u64 (by omega), by rw [Hm.out]; first | done | simp [Nat.div_div_eq_div_mul], hB2, hb.setCell (p := ⟨w.heap.size, 5, none⟩) (Nat.le_refl _) _⟩
      case measure => simp [intOf]
    · have hm : m = n / 281474976710656 := by have := HM.out; simpa using this
      obtain ⟨hg, hset⟩ := rowN_step6 n m hm
      have c0 := HB.out.cell 6 _ hg
      have f0 := HB.out.free 6
      have HS := Lib.hid hset
      have Hm := Lib.hid hm
      clear hg hset hm
      go_wp2
      go_roundw
      case rel =>
        have hB2 := HB.out.set 6 (.int .u8 ((m : Int) % 256))
        rw [HS.out] at hB2
        exact ⟨7, m / 256, by omega, rfl, by first | rfl | exact slot_u64 (by omega), by rw [Hm.out]; first | done | simp [Nat.div_div_eq_div_mul], hB2, hb.setCell (p := ⟨w.heap.size, 6, none⟩) (Nat.le_refl _) _⟩
      case measure => simp [intOf]
    · have hm : m = n / 72057594037927936 := by have := HM.out; simpa using this
      obtain ⟨hg, hset⟩ := rowN_step7 n m hm
      have c0 := HB.out.cell 7 _ hg
      have f0 := HB.out.free 7
      have HS := Lib.hid hset
      have Hm := Lib.hid hm
      clear hg hset hm
      go_wp2
      go_roundw
      case rel =>
        have hB2 := HB.out.set 7 (.int .u8 ((m : Int) % 256))
        rw [HS.out] at hB2
        exact ⟨8, m / 256, by omega, rfl, by first | rfl | exact slot_u64 (by omega), by rw [Hm.out]; first | done | simp [Nat.div_div_eq_div_mul], hB2, hb.setCell (p := ⟨w.heap.size, 7, none⟩) (Nat.le_refl _) _⟩
      case measure => simp [intOf]
    · have hcv := run_convert_bytes_back (P := Try.prog) wr 71 9 5 ⟨w.heap.size, 0, none⟩ 8 (rl.le8 n) Try.underlying71 Try.underlying5 Try.underlying9 (fun j hj => by
        rw [addr_add, Nat.zero_add]
        refine HB.out.cell j _ ?_
        rw [rowN_eight]
        unfold le8V
        rw [List.take_of_length_le (by rw [rl.le8_len]; omega), List.getElem?_map, List.getElem?_eq_getElem hj]; rfl)
      rw [rl.le8_len] at hcv
      go_wp2
      go_ret
      exact ⟨rfl, hb⟩
end Go.Proofs.Ytgaamknkigdoeaa
