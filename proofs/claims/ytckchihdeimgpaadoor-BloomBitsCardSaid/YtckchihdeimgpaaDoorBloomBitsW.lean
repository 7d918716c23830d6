/- The places of a name: both ways, walked. -/
import Derived.Test.YtckchihdeimgpaaDoorBloomFull
import Derived.Test.YtckchihdeimgpaaDoorOwned
namespace Go.Proofs.YtckchihdeimgpaaDoor
open Go Go.RowKit

theorem info_int : (Tryd.prog.info? 3).map (fun i => (i.zero, i.size, i.bytes)) = some (some (.int .i64 0), 1, 8) := by kernel_rfl
def numV (n : Nat) : Value := .int .i64 (n : Int)
theorem numV_one (n : Nat) : ∀ u ∈ [numV n], u.oneCell' = true := by intro u hu; simp at hu; subst hu; rfl

theorem place_mod (a b k m : Nat) : ((a : Int) + (k : Int) * (b : Int)) % 4294967296 % (m : Int) = (((a + k * b) % 4294967296 % m : Nat) : Int) := by
  rw [Int.natCast_emod, Int.natCast_emod, Int.natCast_add, Int.natCast_mul]; rfl
theorem sum_lt2 (l : List UInt8) : crcm.sum l < 4294967296 := crcm.more_lt 0 l
theorem kb_le (k b : Nat) (hk : k < 4) (hb : b < 4294967296) : k * b < 17179869184 := by
  have : k * b ≤ 3 * b := Nat.mul_le_mul_right b (by omega)
  omega

theorem bits_none (s : ByteArray) (m : Int) (w : World) (h : m < 1) :
    Calls Tryd.prog 16 #[.string s, .int .i64 m] w fun e w' => ∃ v, e = .returned v ∧ Vals w' v [] ∧ Below w.heap.size w w' := by
  go_enter Tryd.func16, Tryd.ntmps16
  go_wp2
  go_ret
  exact ⟨_, rfl, Vals.nil w, Below.refl _ _⟩

set_option maxHeartbeats 2000000 in
theorem bits_some (s : ByteArray) (m : Nat) (w : World) (hs : s.size ≤ 1000000) (hm : 1 ≤ m) (hm2 : m ≤ 1000000) (ht : TabAt w) :
    Calls Tryd.prog 16 #[.string s, .int .i64 (m : Int)] w fun e w' => ∃ v, e = .returned v ∧ Vals w' v ((blm.places s.data.toList m).map numV) ∧ Below w.heap.size w w' := by
  obtain ⟨i0, hi, hz0, hz1, hz2⟩ := info_parts info_int
  have hs1 : s.size ≤ maxLen := by unfold maxLen; omega
  have hcat : (s ++ ByteArray.mk #[1]).data.toList = s.data.toList ++ [1] := by rw [ByteArray.data_append, Array.toList_append]
  have hs2 : (s ++ ByteArray.mk #[1]).size ≤ maxLen := by
    rw [← crcm.size_len, hcat, List.length_append, crcm.size_len]; unfold maxLen; simp; omega
  have z2 : (ByteArray.mk #[1]).size ≤ 100 := by decide
  have Hcat := Lib.hid hcat
  have ha4 := sum_lt2 s.data.toList
  have hb4 := sum_lt2 (s.data.toList ++ [1])
  have hpl : ∀ k, blm.place s.data.toList m k = (crcm.sum s.data.toList + k * crcm.sum (s.data.toList ++ [1])) % 4294967296 % m := fun k => rfl
  have hps : blm.places s.data.toList m = [blm.place s.data.toList m 0, blm.place s.data.toList m 1, blm.place s.data.toList m 2, blm.place s.data.toList m 3] := rfl
  obtain ⟨a, hae⟩ : ∃ a, crcm.sum s.data.toList = a := ⟨_, rfl⟩
  obtain ⟨b, hbe⟩ : ∃ b, crcm.sum (s.data.toList ++ [1]) = b := ⟨_, rfl⟩
  rw [hae] at ha4 hpl
  rw [hbe] at hb4 hpl
  have Hae := Lib.hid hae
  have Hbe := Lib.hid hbe
  have Hpl := Lib.hid hpl
  have Hps := Lib.hid hps
  clear hae hbe hpl hps hcat
  go_enter Tryd.func16, Tryd.ntmps16
  go_wp2_with fail
  refine (sum_any s w hs1 ht).mono ?_
  rw [Hae.out]
  rintro e w1 ⟨rfl, hb1⟩
  have ht1 := ht.below hb1 ht.1
  go_wp2_with fail
  refine (sum_any _ w1 hs2 ht1).mono ?_
  rw [Hcat.out, Hbe.out]
  rintro e w2 ⟨rfl, hb2⟩
  have hb02 : Below w.heap.size w w2 := hb1.trans (hb2.mono hb1.size)
  clear ht1 hb1 hb2
  go_wp2_with fail
  go_loopw [4, 7, 17] (fun v _ i wr => ∃ (k : Nat) (xs : List Value), k ≤ 4 ∧ i = .int .u64 k ∧ xs = ((blm.places s.data.toList m).take k).map numV ∧ wr.ownsRow w.heap.size 3 1 v k xs ∧ Below w.heap.size w wr) (fun _ _ i _ => 4 - (intOf i).toNat)
  case atStart => exact ⟨0, [], Nat.zero_le _, rfl, rfl, World.ownsRow_nil _ _ _ _, hb02⟩
  case round =>
    obtain ⟨k, xs, hk, rfl, hxs, hown, hbel⟩ := hrel
    have HX := Lib.hid hxs
    clear hxs hb02
    by_cases hlt : k < 4
    · have hkb := kb_le k b hlt hb4
      have hmod := place_mod a b k m
      rw [← Hpl.out k] at hmod
      have hpp : blm.place s.data.toList m k < m := blm.place_lt (by omega)
      obtain ⟨p, hp⟩ : ∃ p, k * b = p := ⟨_, rfl⟩
      have hpi : (k : Int) * (b : Int) = (p : Int) := by rw [← hp]; exact (Int.natCast_mul k b).symm
      rw [hpi] at hmod
      rw [hp] at hkb
      obtain ⟨r, hr⟩ : ∃ r, blm.place s.data.toList m k = r := ⟨_, rfl⟩
      rw [hr] at hmod hpp
      have hnext : xs ++ [numV r] = ((blm.places s.data.toList m).take (k + 1)).map numV := by
        rw [HX.out, Hps.out, ← hr]
        match k, hlt with
        | 0, _ => rfl
        | 1, _ => rfl
        | 2, _ => rfl
        | 3, _ => rfl
      have HN := Lib.hid hnext
      clear hnext hp hr
      go_wp2_with (at_builtin; refine wpList_append_own _ rfl _ _ 31 rfl w.heap.size 3 i0 (.int .i64 0) 1 8 Tryd.underlying31 hi hz0 hz1 hz2 rfl (by decide) _ _ _ rfl (hown.alloc _) ⟨wr.heap.size, 0, none⟩ 1 1 [numV r] rfl rfl ?c1 ?c2 ?c3 ?c4 ?c5 ?_)
      case c1 => exact cell_new1 _ _ _
      case c2 => exact numV_one _
      case c3 => unfold maxLen; omega
      case c4 => omega
      case c5 => have := hbel.size; simp; omega
      intro v' w3 hown' hgrow _
      go_wp2
      have hrow : ∀ j, u4.ownBlock = some j → w.heap.size ≤ j := fun j hj => (hown.lt j hj).1
      have hb3 : Below w.heap.size w w3 := (hbel.alloc hbel.size _).grown hgrow (by have := hbel.size; simp; omega) hrow
      go_roundw
      case rel => exact ⟨k + 1, xs ++ [numV r], by omega, by go_num, HN.out, hown', hb3⟩
      case measure => simp [intOf]; omega
    · obtain rfl : k = 4 := by omega
      go_wp2
      go_ret
      have : (blm.places s.data.toList m).take 4 = blm.places s.data.toList m := by rw [Hps.out]; rfl
      exact ⟨_, rfl, by rw [← this, ← HX.out]; exact vals_of_owns hown, hbel⟩
end Go.Proofs.YtckchihdeimgpaaDoor
