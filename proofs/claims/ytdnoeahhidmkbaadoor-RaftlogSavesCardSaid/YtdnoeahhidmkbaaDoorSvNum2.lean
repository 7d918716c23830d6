/- Numbers out of bytes; the document's way. -/
import Derived.Test.YtdnoeahhidmkbaaDoorSvNum
import Derived.Laws.BitsAllLaws
import Derived.WalkLawsBesides
namespace Go.Proofs.YtdnoeahhidmkbaaDoor.Sv
open Go Go.RowKit
set_option maxRecDepth 100000

theorem u64_or_join (i a b : Nat) (ha : a < 2 ^ i) (hb : b % 2 ^ i = 0) (ha4 : a < 18446744073709551616) (hb4 : b < 18446744073709551616) : bits .or .u64 (a : Int) (b : Int) = ((a + b : Nat) : Int) := by
  rw [u64_or_nat a b ha4 hb4, Nat.or_comm, nat_join i b a hb ha, Nat.add_comm]
theorem below_bytesWorld (w : World) (e : TypeId) (s : ByteArray) : Below w.heap.size w (Lib.bytesWorld w e s) :=
  ⟨rfl, rfl, rfl, by rw [Lib.bytesWorld_size]; omega, fun k hk => Lib.bytesWorld_at_old w e s k hk⟩

theorem orn1 (S : Nat) (b : UInt8) (h : S < 256) : bits .or .u64 (S : Int) ((b.toNat : Int) * 256) = ((S + 256 * b.toNat : Nat) : Int) ∧ S + 256 * b.toNat < 65536 := by
  have := b.toNat_lt
  refine ⟨?_, by omega⟩
  rw [show (b.toNat : Int) * 256 = ((256 * b.toNat : Nat) : Int) from by omega]
  exact u64_or_join 8 _ _ (by omega) (by omega) (by omega) (by omega)
theorem orn2 (S : Nat) (b : UInt8) (h : S < 65536) : bits .or .u64 (S : Int) ((b.toNat : Int) * 65536) = ((S + 65536 * b.toNat : Nat) : Int) ∧ S + 65536 * b.toNat < 16777216 := by
  have := b.toNat_lt
  refine ⟨?_, by omega⟩
  rw [show (b.toNat : Int) * 65536 = ((65536 * b.toNat : Nat) : Int) from by omega]
  exact u64_or_join 16 _ _ (by omega) (by omega) (by omega) (by omega)
theorem orn3 (S : Nat) (b : UInt8) (h : S < 16777216) : bits .or .u64 (S : Int) ((b.toNat : Int) * 16777216) = ((S + 16777216 * b.toNat : Nat) : Int) ∧ S + 16777216 * b.toNat < 4294967296 := by
  have := b.toNat_lt
  refine ⟨?_, by omega⟩
  rw [show (b.toNat : Int) * 16777216 = ((16777216 * b.toNat : Nat) : Int) from by omega]
  exact u64_or_join 24 _ _ (by omega) (by omega) (by omega) (by omega)
theorem orn4 (S : Nat) (b : UInt8) (h : S < 4294967296) : bits .or .u64 (S : Int) ((b.toNat : Int) * 4294967296) = ((S + 4294967296 * b.toNat : Nat) : Int) ∧ S + 4294967296 * b.toNat < 1099511627776 := by
  have := b.toNat_lt
  refine ⟨?_, by omega⟩
  rw [show (b.toNat : Int) * 4294967296 = ((4294967296 * b.toNat : Nat) : Int) from by omega]
  exact u64_or_join 32 _ _ (by omega) (by omega) (by omega) (by omega)
theorem orn5 (S : Nat) (b : UInt8) (h : S < 1099511627776) : bits .or .u64 (S : Int) ((b.toNat : Int) * 1099511627776) = ((S + 1099511627776 * b.toNat : Nat) : Int) ∧ S + 1099511627776 * b.toNat < 281474976710656 := by
  have := b.toNat_lt
  refine ⟨?_, by omega⟩
  rw [show (b.toNat : Int) * 1099511627776 = ((1099511627776 * b.toNat : Nat) : Int) from by omega]
  exact u64_or_join 40 _ _ (by omega) (by omega) (by omega) (by omega)
theorem orn6 (S : Nat) (b : UInt8) (h : S < 281474976710656) : bits .or .u64 (S : Int) ((b.toNat : Int) * 281474976710656) = ((S + 281474976710656 * b.toNat : Nat) : Int) ∧ S + 281474976710656 * b.toNat < 72057594037927936 := by
  have := b.toNat_lt
  refine ⟨?_, by omega⟩
  rw [show (b.toNat : Int) * 281474976710656 = ((281474976710656 * b.toNat : Nat) : Int) from by omega]
  exact u64_or_join 48 _ _ (by omega) (by omega) (by omega) (by omega)
theorem orn7 (S : Nat) (b : UInt8) (h : S < 72057594037927936) : bits .or .u64 (S : Int) ((b.toNat : Int) * 72057594037927936) = ((S + 72057594037927936 * b.toNat : Nat) : Int) ∧ S + 72057594037927936 * b.toNat < 18446744073709551616 := by
  have := b.toNat_lt
  refine ⟨?_, by omega⟩
  rw [show (b.toNat : Int) * 72057594037927936 = ((72057594037927936 * b.toNat : Nat) : Int) from by omega]
  exact u64_or_join 56 _ _ (by omega) (by omega) (by omega) (by omega)
set_option maxHeartbeats 4000000 in
theorem number_any (a b c d e f g h : UInt8) (w : World) :
    Calls Tryd.prog 84 #[.string (crcm.mk [a, b, c, d, e, f, g, h])] w fun e' w' => e' = .returned (.int .u64 (rl.num [a, b, c, d, e, f, g, h] : Nat)) ∧ Below w.heap.size w w' := by
  have hsz : (crcm.mk [a, b, c, d, e, f, g, h]).size = 8 := rfl
  have hconv := Lib.run_convert_string_bytes (P := Tryd.prog) w 9 37 5 (crcm.mk [a, b, c, d, e, f, g, h]) Tryd.underlying9 Tryd.underlying37 Tryd.underlying5
  rw [hsz] at hconv
  have hcell := fun k hk => Lib.bytesWorld_cell w 5 (crcm.mk [a, b, c, d, e, f, g, h]) k hk
  have c0 := hcell 0 (by rw [hsz]; decide)
  have c1 := hcell 1 (by rw [hsz]; decide)
  have c2 := hcell 2 (by rw [hsz]; decide)
  have c3 := hcell 3 (by rw [hsz]; decide)
  have c4 := hcell 4 (by rw [hsz]; decide)
  have c5 := hcell 5 (by rw [hsz]; decide)
  have c6 := hcell 6 (by rw [hsz]; decide)
  have c7 := hcell 7 (by rw [hsz]; decide)
  have hb := below_bytesWorld w 5 (crcm.mk [a, b, c, d, e, f, g, h])
  obtain ⟨w1, hw1⟩ : ∃ w1, Lib.bytesWorld w 5 (crcm.mk [a, b, c, d, e, f, g, h]) = w1 := ⟨_, rfl⟩
  rw [hw1] at hconv hb c0 c1 c2 c3 c4 c5 c6 c7
  clear hcell hw1
  rw [show (crcm.mk [a, b, c, d, e, f, g, h]).data.toList.getD 0 0 = a from rfl] at c0
  rw [show (crcm.mk [a, b, c, d, e, f, g, h]).data.toList.getD 1 0 = b from rfl] at c1
  rw [show (crcm.mk [a, b, c, d, e, f, g, h]).data.toList.getD 2 0 = c from rfl] at c2
  rw [show (crcm.mk [a, b, c, d, e, f, g, h]).data.toList.getD 3 0 = d from rfl] at c3
  rw [show (crcm.mk [a, b, c, d, e, f, g, h]).data.toList.getD 4 0 = e from rfl] at c4
  rw [show (crcm.mk [a, b, c, d, e, f, g, h]).data.toList.getD 5 0 = f from rfl] at c5
  rw [show (crcm.mk [a, b, c, d, e, f, g, h]).data.toList.getD 6 0 = g from rfl] at c6
  rw [show (crcm.mk [a, b, c, d, e, f, g, h]).data.toList.getD 7 0 = h from rfl] at c7
  have la : a.toNat < 256 := a.toNat_lt
  have lb : b.toNat < 256 := b.toNat_lt
  have lc : c.toNat < 256 := c.toNat_lt
  have ld : d.toNat < 256 := d.toNat_lt
  have le : e.toNat < 256 := e.toNat_lt
  have lf : f.toNat < 256 := f.toNat_lt
  have lg : g.toNat < 256 := g.toNat_lt
  have lh : h.toNat < 256 := h.toNat_lt
  have hfin := rl.num8 a b c d e f g h
  have o0 : bits .or .u64 0 (a.toNat : Int) = (a.toNat : Int) := by have := u64_or_join 0 0 a.toNat (by omega) (by omega) (by omega) (by omega); simpa using this
  have o1 := orn1 _ b la
  obtain ⟨S1, hS1⟩ : ∃ S, a.toNat + 256 * b.toNat = S := ⟨_, rfl⟩
  rw [hS1] at o1 hfin
  obtain ⟨o1, p1⟩ := o1
  clear hS1
  have o2 := orn2 _ c p1
  obtain ⟨S2, hS2⟩ : ∃ S, S1 + 65536 * c.toNat = S := ⟨_, rfl⟩
  rw [hS2] at o2 hfin
  obtain ⟨o2, p2⟩ := o2
  clear hS2
  have o3 := orn3 _ d p2
  obtain ⟨S3, hS3⟩ : ∃ S, S2 + 16777216 * d.toNat = S := ⟨_, rfl⟩
  rw [hS3] at o3 hfin
  obtain ⟨o3, p3⟩ := o3
  clear hS3
  have o4 := orn4 _ e p3
  obtain ⟨S4, hS4⟩ : ∃ S, S3 + 4294967296 * e.toNat = S := ⟨_, rfl⟩
  rw [hS4] at o4 hfin
  obtain ⟨o4, p4⟩ := o4
  clear hS4
  have o5 := orn5 _ f p4
  obtain ⟨S5, hS5⟩ : ∃ S, S4 + 1099511627776 * f.toNat = S := ⟨_, rfl⟩
  rw [hS5] at o5 hfin
  obtain ⟨o5, p5⟩ := o5
  clear hS5
  have o6 := orn6 _ g p5
  obtain ⟨S6, hS6⟩ : ∃ S, S5 + 281474976710656 * g.toNat = S := ⟨_, rfl⟩
  rw [hS6] at o6 hfin
  obtain ⟨o6, p6⟩ := o6
  clear hS6
  have o7 := orn7 _ h p6
  obtain ⟨S7, hS7⟩ : ∃ S, S6 + 72057594037927936 * h.toNat = S := ⟨_, rfl⟩
  rw [hS7] at o7 hfin
  obtain ⟨o7, p7⟩ := o7
  clear hS7
  have HF := Lib.hid hfin
  clear hfin
  go_enter Tryd.func84, Tryd.ntmps84
  go_wp2
  refine wp_loop_rounds 9 ?_
  rw [rounds_succ]
  go_wp2
  rw [rounds_succ]
  go_wp2
  rw [rounds_succ]
  go_wp2
  rw [rounds_succ]
  go_wp2
  rw [rounds_succ]
  go_wp2
  rw [rounds_succ]
  go_wp2
  rw [rounds_succ]
  go_wp2
  rw [rounds_succ]
  go_wp2
  rw [rounds_succ]
  go_wp2
  go_ret
  exact ⟨ret_of (slot_u64 (by rw [HF.out])), hb⟩

theorem byte_at (s : ByteArray) (k : Nat) (h : k < s.size) : s[k] = s.data.toList.getD k 0 := by
  rw [List.getD_eq_getElem?_getD, List.getElem?_eq_getElem (by rw [crcm.size_len]; exact h)]; rfl
end Go.Proofs.YtdnoeahhidmkbaaDoor.Sv
