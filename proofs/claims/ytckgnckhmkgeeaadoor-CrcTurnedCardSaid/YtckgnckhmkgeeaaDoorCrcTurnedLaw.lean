/- CrcTurned walked: whatever comes in, it returns true. -/
import Derived.Test.YtckgnckhmkgeeaaDoorCrcShown
import Derived.RegionTactic
import Derived.ChangeAlike
namespace Go.Proofs.YtckgnckhmkgeeaaDoor
open Go Go.RowKit

theorem flip_bit (b : UInt8) (q : Nat) (hq : q < 8) : ∃ y : UInt8, y ≠ b ∧ bits .xor .u8 (b.toNat : Int) (2 ^ q % 256) = (y.toNat : Int) := by
  have hp : 2 ^ q < 256 := Nat.lt_of_lt_of_le (Nat.pow_lt_pow_right (by decide) hq) (by decide)
  have hb := b.toNat_lt
  have hx : b.toNat ^^^ 2 ^ q < 256 := Nat.xor_lt_two_pow (n := 8) hb hp
  have he : (UInt8.ofNat (b.toNat ^^^ 2 ^ q)).toNat = b.toNat ^^^ 2 ^ q := by rw [UInt8.toNat_ofNat']; exact Nat.mod_eq_of_lt hx
  refine ⟨UInt8.ofNat (b.toNat ^^^ 2 ^ q), ?_, ?_⟩
  · intro h
    have h1 := congrArg UInt8.toNat h
    rw [he] at h1
    have h2 := congrArg (b.toNat ^^^ ·) h1
    simp only [← Nat.xor_assoc, Nat.xor_self, Nat.zero_xor] at h2
    have := Nat.two_pow_pos q
    omega
  · have hc : (2 : Int) ^ q % 256 = ((2 ^ q : Nat) : Int) := by
      rw [Int.natCast_pow]
      have : ((2 ^ q : Nat) : Int) < 256 := by omega
      rw [Int.natCast_pow] at this
      exact Int.emod_eq_of_lt (Int.pow_nonneg (by decide)) this
    rw [hc, u8_xor_nat _ _ hb hp, he]

theorem bytes_free (w : World) (e : TypeId) (s : ByteArray) (j : Nat) (hj : j < s.size) : (Lib.bytesWorld w e s).frozen? ⟨w.heap.size, j, none⟩ = false := by
  have h := Lib.bytesWorld_at_new w e s
  have hz : s.size ≤ (Lib.bytesCells w e s).size := by
    unfold Lib.bytesCells
    rw [Array.size_append, Array.size_map, Array.size_replicate]
    show s.size ≤ s.size + _
    omega
  unfold World.frozen?
  rw [h]
  simp
  omega

theorem turned_long (s : ByteArray) (x : Nat) (w : World) (hs : s.size ≤ maxLen) (h : 1000 < s.size) (ht : TabAt w) :
    Calls Tryd.prog 4 #[.string s, .int .u16 (x : Int)] w fun e w' => e = .returned (.bool true) ∧ Below w.heap.size w w' := by
  unfold maxLen at hs
  go_enter Tryd.func4, Tryd.ntmps4
  go_wp2_with (go_at_call 9; refine (shown_any _ ht).mono ?_; rintro e w1 ⟨rfl, hb1⟩)
  go_ret
  exact ⟨rfl, hb1⟩

set_option maxHeartbeats 4000000 in
theorem turned_short (s : ByteArray) (x : Nat) (w : World) (hx : x < 65536) (hs : s.size ≤ 1000) (ht : TabAt w) :
    Calls Tryd.prog 4 #[.string s, .int .u16 (x : Int)] w fun e w' => e = .returned (.bool true) ∧ Below w.heap.size w w' := by
  have hsl := crcm.size_len s
  have hput : crcm.put s.data.toList = (crcm.body s.data.toList, 0) := by unfold crcm.put; rw [if_neg (by omega)]
  have hturn := crcm.get_turned s.data.toList (by omega)
  have hbl := crcm.body_len s.data.toList
  rw [hsl] at hbl hturn
  obtain ⟨B, hB⟩ : ∃ B, crcm.body s.data.toList = B := ⟨_, rfl⟩
  rw [hB] at hput hturn hbl
  have Hput := Lib.hid hput
  have Hturn := Lib.hid hturn
  have Hbl := Lib.hid hbl
  have hz : (crcm.mk B).size = 6 + s.size := by rw [crcm.mk_size, hbl]
  have hszi : ((crcm.mk B).size : Int) = 6 + (s.size : Int) := by omega
  have hsz2 : (crcm.mk B).size ≤ 1006 := by omega
  have hconv := fun W => Lib.run_convert_string_bytes (P := Tryd.prog) W 9 31 5 (crcm.mk B) Tryd.underlying9 Tryd.underlying31 Tryd.underlying5
  obtain ⟨n, hn⟩ : ∃ n, 6 + s.size = n := ⟨_, rfl⟩
  have hni : (6 : Int) + (s.size : Int) = (n : Int) := by omega
  rw [hz, hn] at hconv
  rw [hn] at hz Hbl Hturn
  rw [hni] at hszi
  have hnl : 6 ≤ n := by omega
  have hnu : n ≤ 1006 := by omega
  obtain ⟨r, hr⟩ : ∃ r, x % (8 * n - 16) = r := ⟨_, rfl⟩
  have hrl : r < 8 * n - 16 := by rw [← hr]; exact Nat.mod_lt _ (by omega)
  have hri : (x : Int) % (8 * (n : Int) - 16) = (r : Int) := by
    rw [← hr, Int.natCast_emod]; congr 1; omega
  obtain ⟨i, hi⟩ : ∃ i, 16 + r = i := ⟨_, rfl⟩
  have hii : (16 : Int) + (r : Int) = (i : Int) := by omega
  obtain ⟨j, hj⟩ : ∃ j, i / 8 = j := ⟨_, rfl⟩
  obtain ⟨q, hq⟩ : ∃ q, i % 8 = q := ⟨_, rfl⟩
  have hji : (i : Int) / 8 = (j : Int) := by omega
  have hqi : (i : Int) % 8 = (q : Int) := by omega
  have hi8 : i < 8 * n := by omega
  have hj2 : 2 ≤ j := by omega
  have hjn : j < n := by omega
  have hq8 : q < 8 := by omega
  clear hput hturn hbl hsl hB hn hr hi hj hq
  have Hz := Lib.hid hz
  clear hz hsz2
  go_enter Tryd.func4, Tryd.ntmps4
  go_wp2_with fail
  refine (shown_any _ ht).mono ?_
  rintro e w1 ⟨rfl, hb1⟩
  have ht1 := ht.below hb1 ht.1
  go_wp2_with fail
  refine (put_fits s _ (by omega) ht1).mono ?_
  rw [Hput.out]
  rintro e w2 ⟨rfl, hb2⟩
  have ht2 := ht1.below hb2 ht1.1
  go_wp2_with fail
  go_wp2_with fail
  have hcell := Lib.bytesWorld_cell w2 5 (crcm.mk B) j (by rw [Hz.out]; exact hjn)
  rw [crcm.mk_toList] at hcell
  have hfr := bytes_free w2 5 (crcm.mk B) j (by rw [Hz.out]; exact hjn)
  have hcells := Lib.bytesWorld_cell w2 5 (crcm.mk B)
  rw [crcm.mk_toList] at hcells
  have hb3 := below_bytesWorld w2 5 (crcm.mk B)
  obtain ⟨b, hb⟩ : ∃ b, B.getD j 0 = b := ⟨_, rfl⟩
  rw [hb] at hcell
  obtain ⟨y, hy, hv⟩ := flip_bit b q hq8
  have hget := Hturn.out j hj2 hjn y (by rw [hb]; exact hy)
  have Hget := Lib.hid hget
  have hji' : j < 1006 := by omega
  have hcapn : n ≤ grownCap w2 n 0 5 := grownCap_ge _ _ _ _
  obtain ⟨W3, hW3⟩ : ∃ W3, Lib.bytesWorld w2 5 (crcm.mk B) = W3 := ⟨_, rfl⟩
  rw [hW3] at hcell hfr hb3 hcells ⊢
  have hsetl : (B.set j y).length = n := by rw [List.length_set, Hbl.out]
  have hback : (convert 31 9 (.slice (some ⟨w2.heap.size, 0, none⟩) n (grownCap w2 n 0 5))).run Tryd.prog (W3.setCell ⟨w2.heap.size, j, none⟩ (.int .u8 (y.toNat : Int))).drew =
      .ok (.string (crcm.mk (B.set j y))) (W3.setCell ⟨w2.heap.size, j, none⟩ (.int .u8 (y.toNat : Int))).drew := by
    have h := run_convert_bytes_back (P := Tryd.prog) (W3.setCell ⟨w2.heap.size, j, none⟩ (.int .u8 (y.toNat : Int))).drew 31 9 5 ⟨w2.heap.size, 0, none⟩ (grownCap w2 n 0 5) (B.set j y) Tryd.underlying31 Tryd.underlying5 Tryd.underlying9 (by
      intro k hk
      have hkn : k < n := by rw [← hsetl]; exact hk
      rw [show (⟨w2.heap.size, 0, none⟩ : Addr).add k = ⟨w2.heap.size, k, none⟩ from by unfold Addr.add; split <;> simp_all]
      show (W3.setCell ⟨w2.heap.size, j, none⟩ (.int .u8 (y.toNat : Int))).cell? ⟨w2.heap.size, k, none⟩ = _
      by_cases hkj : k = j
      · subst hkj
        rw [World.cell?_setCell_same _ _ _ hcell, List.getElem_set_self]
      · rw [World.cell?_setCell_other _ _ _ _ (by simp), hcells k (by rw [Hz.out]; exact hkn), List.getElem_set_ne (by omega), List.getD_eq_getElem?_getD, List.getElem?_eq_getElem (by rw [Hbl.out]; exact hkn)]
        rfl)
    rw [hsetl] at h
    exact h
  have hbw : Below w2.heap.size w2 (W3.setCell ⟨w2.heap.size, j, none⟩ (.int .u8 (y.toNat : Int))).drew := (hb3.setCell (p := ⟨w2.heap.size, j, none⟩) (Nat.le_refl _) _).drew
  have ht3 := ht2.below hbw ht2.1
  have hmt : (crcm.mk []).toList = [] := by rw [ByteArray.toList_eq]; rfl
  have hsz3 : (crcm.mk (B.set j y)).size ≤ maxLen := by rw [crcm.mk_size, hsetl]; unfold maxLen; omega
  clear hW3 hconv hcells hb hget hsetl
  go_region
  go_wp2_with (go_at_call 15; refine (get_any _ _ hsz3 ht3).mono ?_; unfold GetPost; rw [crcm.mk_toList, Hget.out]; rintro e w4 ⟨rfl, hb4⟩)
  go_ret
  exact ⟨rfl, (hb1.trans (hb2.mono hb1.size)).trans ((hbw.trans (hb4.mono hbw.size)).mono (Nat.le_trans hb1.size hb2.size))⟩

theorem turned_law (s : ByteArray) (x : Nat) (w : World) (hx : x < 65536) (hs : s.size ≤ maxLen) (ht : TabAt w) :
    Calls Tryd.prog 4 #[.string s, .int .u16 (x : Int)] w fun e w' => e = .returned (.bool true) ∧ Below w.heap.size w w' := by
  by_cases h : s.size ≤ 1000
  · exact turned_short s x w hx h ht
  · exact turned_long s x w hs (by omega) ht
end Go.Proofs.YtckgnckhmkgeeaaDoor
