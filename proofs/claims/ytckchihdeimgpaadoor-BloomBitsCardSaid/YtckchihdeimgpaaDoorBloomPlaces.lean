/- The walk over a name's places: asking a filter, and setting its bits. -/
import Derived.Test.YtckchihdeimgpaaDoorBloomRefBits
import Derived.RegionTactic
import Derived.ChangeAlike
namespace Go.Proofs.YtckchihdeimgpaaDoor
open Go Go.RowKit

theorem and_bit (b : UInt8) (q : Nat) : bits .and .u8 ((b.toNat : Int) / 2 ^ q) 1 = if b.toNat.testBit q = true then 1 else 0 := by
  have h1 : (b.toNat : Int) / 2 ^ q = ((b.toNat / 2 ^ q : Nat) : Int) := by rw [Int.natCast_ediv, Int.natCast_pow]; rfl
  have hb := b.toNat_lt
  have h2 : b.toNat / 2 ^ q < 256 := Nat.lt_of_le_of_lt (Nat.div_le_self _ _) hb
  rw [h1, show (1 : Int) = ((1 : Nat) : Int) from rfl, u8_and_nat _ _ h2 (by decide), nat_mask1, Nat.testBit_eq_decide_div_mod_eq]
  by_cases h : b.toNat / 2 ^ q % 2 = 1
  · simp [h]
  · have : b.toNat / 2 ^ q % 2 = 0 := by omega
    simp [this]
theorem or_bit (b : UInt8) (q : Nat) (hq : q < 8) : bits .or .u8 (b.toNat : Int) (2 ^ q % 256) = ((UInt8.ofNat (b.toNat ||| 2 ^ q)).toNat : Int) := by
  have hp : 2 ^ q < 256 := blm.pow8 q hq
  have hc : (2 : Int) ^ q % 256 = ((2 ^ q : Nat) : Int) := by
    rw [Int.natCast_pow]
    have : ((2 ^ q : Nat) : Int) < 256 := by omega
    rw [Int.natCast_pow] at this
    exact Int.emod_eq_of_lt (Int.pow_nonneg (by decide)) this
  rw [hc, u8_or_nat _ _ b.toNat_lt hp, blm.or_byte b q hq]
theorem shr_bit (b : UInt8) (q : Nat) : ((b.toNat / 2 ^ q % 2 : Nat) == 1) = b.toNat.testBit q := by
  rw [Nat.testBit_eq_decide_div_mod_eq, Bool.eq_iff_iff, beq_iff_eq, decide_eq_true_iff]

set_option maxHeartbeats 1000000 in
theorem ask_any (s : ByteArray) (i Bs : Nat) (w : World) (hs : s.size ≤ 1000000) (hi : i < 8 * s.size) (hc : w.cell? ⟨Bs, 0, none⟩ = some (.string s)) :
    Calls Tryd.prog 26 #[.int .i64 (i : Int), .pointer (some ⟨Bs, 0, none⟩)] w fun e w' => e = .returned (.bool (blm.getB s.data.toList i)) ∧ w = w' := by
  have hg := byte_at s (i / 8) (by omega)
  have hfin : blm.getB s.data.toList i = (s.data.toList.getD (i / 8) 0).toNat.testBit (i % 8) := rfl
  obtain ⟨b, hb⟩ : ∃ b, s.data.toList.getD (i / 8) 0 = b := ⟨_, rfl⟩
  rw [hb] at hg hfin
  have hbl : b.toNat < 256 := b.toNat_lt
  obtain ⟨j, hj⟩ : ∃ j, i / 8 = j := ⟨_, rfl⟩
  obtain ⟨q, hq⟩ : ∃ q, i % 8 = q := ⟨_, rfl⟩
  have hji : (i : Int) / 8 = (j : Int) := by omega
  have hqi : (i : Int) % 8 = (q : Int) := by omega
  have hjl : j < s.size := by omega
  have hq8 : q < 8 := by omega
  rw [hq] at hfin
  have hgj : s[j] = b := by rw [← hg]; congr 1; exact hj.symm
  have hand := and_bit b q
  rw [← hfin] at hand
  have hb2 : ((if blm.getB s.data.toList i = true then (1 : Int) else 0) == 1) = blm.getB s.data.toList i := by cases blm.getB s.data.toList i <;> rfl
  have Hb2 := Lib.hid hb2
  clear hfin hb hg hj hq hb2
  obtain ⟨v, hv⟩ : ∃ v : Int, (if blm.getB s.data.toList i = true then (1 : Int) else 0) = v := ⟨_, rfl⟩
  rw [hv] at hand Hb2
  clear hv
  go_enter Tryd.func26, Tryd.ntmps26
  go_wp2
  go_ret
  exact ⟨ret_of (by rw [← Hb2.out]; rfl), rfl⟩

def byteV (b : UInt8) : Value := .int .u8 (b.toNat : Int)
/-- block g holds the filter -/
def Fil (w : World) (g : Nat) (fl : List UInt8) : Prop := w.heap[g]? = some (.cells (fl.map byteV).toArray 5 (0, 0))
theorem Fil.cell {w : World} {g : Nat} {fl : List UInt8} (h : Fil w g fl) (j : Nat) (b : UInt8) (hj : fl[j]? = some b) : w.cell? ⟨g, j, none⟩ = some (byteV b) := by
  rw [cell_of_row w g j _ _ (0, 0) h]
  simp [hj]
theorem Fil.free {w : World} {g : Nat} {fl : List UInt8} (h : Fil w g fl) (j : Nat) : w.frozen? ⟨g, j, none⟩ = false := by
  unfold Fil at h
  simp [World.frozen?, h]
theorem Fil.set {w : World} {g : Nat} {fl : List UInt8} (h : Fil w g fl) (j : Nat) (b : UInt8) : Fil (w.setCell ⟨g, j, none⟩ (byteV b)) g (fl.set j b) := by
  unfold Fil at h ⊢
  simp only [World.setCell, Array.getElem?_modify, h, if_true]
  simp [List.map_set]
theorem Fil.lt {w : World} {g : Nat} {fl : List UInt8} (h : Fil w g fl) : g < w.heap.size := (Array.getElem?_eq_some_iff.1 h).1
theorem Fil.below {w w' : World} {g : Nat} {fl : List UInt8} (h : Fil w g fl) (hb : Below w.heap.size w w') : Fil w' g fl := (hb.block g h.lt).trans h

set_option maxHeartbeats 1000000 in
theorem set_any (fl : List UInt8) (i Bb g cap : Nat) (w : World) (hl : fl.length ≤ 1000000) (hi : i < 8 * fl.length) (hc : w.cell? ⟨Bb, 0, none⟩ = some (.slice (some ⟨g, 0, none⟩) fl.length cap))
    (_hcap : fl.length ≤ cap) (hF : Fil w g fl) :
    Calls Tryd.prog 21 #[.int .i64 (i : Int), .pointer (some ⟨Bb, 0, none⟩)] w fun e w' => e = .returned (.bool true) ∧ Fil w' g (blm.setB fl i) ∧ w.grownBy w' (some g) := by
  have hset : blm.setB fl i = fl.set (i / 8) (UInt8.ofNat ((fl.getD (i / 8) 0).toNat ||| 2 ^ (i % 8))) := rfl
  obtain ⟨n, hn⟩ : ∃ n, fl.length = n := ⟨_, rfl⟩
  rw [hn] at hl hi hc _hcap
  obtain ⟨j, hj⟩ : ∃ j, i / 8 = j := ⟨_, rfl⟩
  obtain ⟨q, hq⟩ : ∃ q, i % 8 = q := ⟨_, rfl⟩
  rw [hj, hq] at hset
  have hji : (i : Int) / 8 = (j : Int) := by omega
  have hqi : (i : Int) % 8 = (q : Int) := by omega
  have hjl : j < n := by omega
  have hq8 : q < 8 := by omega
  have hcell := hF.cell j (fl.getD j 0) (by rw [List.getD_eq_getElem?_getD, List.getElem?_eq_getElem (by omega)]; rfl)
  unfold byteV at hcell
  have hfj := hF.free j
  obtain ⟨b, hb⟩ : ∃ b, fl.getD j 0 = b := ⟨_, rfl⟩
  rw [hb] at hcell hset
  have hor := or_bit b q hq8
  obtain ⟨y, hy⟩ : ∃ y, UInt8.ofNat (b.toNat ||| 2 ^ q) = y := ⟨_, rfl⟩
  rw [hy] at hor hset
  have Hset := Lib.hid hset
  clear hn hj hq hb hset hy
  go_enter Tryd.func21, Tryd.ntmps21
  go_wp2
  go_region
  go_wp2
  go_ret
  refine ⟨rfl, ?_, ?_⟩
  · rw [Hset.out]
    exact hF.set j y
  · exact ⟨rfl, rfl, rfl, by simp [World.setCell, World.drew], fun k _ hne => Below.heap_setCell _ _ _ k (fun e => hne (by rw [e]))⟩

theorem grown_trans {a b c : World} {row : Option Nat} (h : a.grownBy b row) (k : b.grownBy c row) : a.grownBy c row :=
  ⟨k.os.trans h.os, k.tape.trans h.tape, k.output.trans h.output, Nat.le_trans h.size k.size, fun i hi hne => (k.block i (Nat.lt_of_lt_of_le hi h.size) hne).trans (h.block i hi hne)⟩
theorem tab_grown {w w' : World} {g : Nat} (h : TabAt w) (hg : w.grownBy w' (some g)) (h0 : g ≠ 0) : TabAt w' :=
  ⟨Nat.lt_of_lt_of_le h.1 hg.size, fun i hi => hg.cell (h.2 i hi) (by simp; omega)⟩
theorem step_mod (a b k : Nat) : ((((a + k * b) % 4294967296 : Nat) : Int) + (b : Int)) % 4294967296 = (((a + (k + 1) * b) % 4294967296 : Nat) : Int) := by
  rw [← Int.natCast_add]
  have : (((a + k * b) % 4294967296 + b : Nat) : Int) % 4294967296 = ((((a + k * b) % 4294967296 + b) % 4294967296 : Nat) : Int) := by omega
  rw [this, Nat.mod_add_mod, Nat.add_assoc, Nat.add_mul, Nat.one_mul]
theorem places_take (name : List UInt8) (m k : Nat) (hk : k < 4) : (blm.places name m).take (k + 1) = (blm.places name m).take k ++ [blm.place name m k] := by
  match k, hk with
  | 0, _ => rfl
  | 1, _ => rfl
  | 2, _ => rfl
  | 3, _ => rfl

set_option maxHeartbeats 2000000 in
theorem places_set (name : ByteArray) (fl : List UInt8) (Bb g cap : Nat) (w : World) (hs : name.size ≤ 1000000) (hl0 : 0 < fl.length) (hl : fl.length ≤ 100000)
    (hc : w.cell? ⟨Bb, 0, none⟩ = some (.slice (some ⟨g, 0, none⟩) fl.length cap)) (hcap : fl.length ≤ cap) (hBg : Bb ≠ g) (hg0 : g ≠ 0) (hF : Fil w g fl) (ht : TabAt w) :
    Calls Tryd.prog 20 #[.string name, .int .i64 ((8 * fl.length : Nat) : Int), .func (.func 21) #[] #[.pointer (some ⟨Bb, 0, none⟩)]] w fun e w' =>
      e = .returned (.bool true) ∧ Fil w' g (blm.addName fl.length fl name.data.toList) ∧ w.grownBy w' (some g) := by
  have hadd : blm.addName fl.length fl name.data.toList = (blm.places name.data.toList (8 * fl.length)).foldl blm.setB fl := rfl
  have Hadd := Lib.hid hadd
  have hs1 : name.size ≤ maxLen := by unfold maxLen; omega
  have z1 : (ByteArray.mk #[1]).size ≤ maxLen := by decide
  obtain ⟨n, hn⟩ : ∃ n, fl.length = n := ⟨_, rfl⟩
  rw [hn] at hl hc hcap hl0 Hadd ⊢
  obtain ⟨m, hm⟩ : ∃ m, 8 * n = m := ⟨_, rfl⟩
  rw [hm] at Hadd ⊢
  have hm0 : 0 < m := by omega
  have hm1 : m ≤ 1000000 := by omega
  have ha4 := sum_lt2 name.data.toList
  have hb4 := sum_lt2 (name.data.toList ++ [1])
  have hmo : crcm.more (crcm.sum name.data.toList) [1] = crcm.sum (name.data.toList ++ [1]) := crcm.more_sum _ _
  have hpl : ∀ k, (crcm.sum name.data.toList + k * crcm.sum (name.data.toList ++ [1])) % 4294967296 % m = blm.place name.data.toList m k := fun k => rfl
  obtain ⟨a, hae⟩ : ∃ a, crcm.sum name.data.toList = a := ⟨_, rfl⟩
  obtain ⟨b, hbe⟩ : ∃ b, crcm.sum (name.data.toList ++ [1]) = b := ⟨_, rfl⟩
  rw [hae] at ha4 hpl hmo
  rw [hbe] at hb4 hpl hmo
  have Hae := Lib.hid hae
  have Hmo := Lib.hid hmo
  have Hpl := Lib.hid hpl
  have Hn := Lib.hid hn
  have Hm := Lib.hid hm
  clear hae hbe hpl hmo hadd hn hm
  go_enter Tryd.func20, Tryd.ntmps20
  go_wp2_with fail
  refine (sum_any name w hs1 ht).mono ?_
  rw [Hae.out]
  rintro e w1 ⟨rfl, hb1⟩
  have ht1 := ht.below hb1 ht.1
  go_wp2_with fail
  refine (more_any a _ w1 ha4 z1 ht1).mono ?_
  rw [show (ByteArray.mk #[1]).data.toList = [1] from rfl, Hmo.out]
  rintro e w2 ⟨rfl, hb2⟩
  have hb02 : Below w.heap.size w w2 := hb1.trans (hb2.mono hb1.size)
  clear ht1 hb1 hb2
  go_wp2_with fail
  go_loopw [7, 13] (fun x i wr => ∃ (k ak : Nat), k ≤ 4 ∧ i = .int .i64 k ∧ x = .int .u32 (ak : Int) ∧ ak < 4294967296 ∧ ak = (a + k * b) % 4294967296 ∧ Fil wr g (((blm.places name.data.toList m).take k).foldl blm.setB fl) ∧ w.grownBy wr (some g)) (fun _ i _ => 4 - (intOf i).toNat)
  case atStart => exact ⟨0, a, Nat.zero_le _, rfl, rfl, ha4, by rw [Nat.zero_mul, Nat.add_zero]; exact (Nat.mod_eq_of_lt ha4).symm, hF.below hb02, grown_of_below hb02 _⟩
  case round =>
    obtain ⟨k, ak, hk, rfl, rfl, hak, hake, hFr, hgr⟩ := hrel
    have HAK := Lib.hid hake
    clear hake hb02
    have htr := tab_grown ht hgr hg0
    have hcr := hgr.cell hc (by simp; exact hBg)
    by_cases hlt : k < 4
    · have hmod : (ak : Int) % (m : Int) = (blm.place name.data.toList m k : Nat) := by rw [← Hpl.out k, ← HAK.out, Int.natCast_emod]
      have hnx : ((ak : Int) + (b : Int)) % 4294967296 = (((a + (k + 1) * b) % 4294967296 : Nat) : Int) := by rw [HAK.out]; exact step_mod a b k
      have hpt := places_take name.data.toList m k hlt
      have hpp : blm.place name.data.toList m k < m := blm.place_lt hm0
      obtain ⟨r, hr⟩ : ∃ r, blm.place name.data.toList m k = r := ⟨_, rfl⟩
      rw [hr] at hmod hpp hpt
      obtain ⟨a2, ha2⟩ : ∃ a2, (a + (k + 1) * b) % 4294967296 = a2 := ⟨_, rfl⟩
      have ha24 : a2 < 4294967296 := by omega
      rw [ha2] at hnx
      have HA2 := Lib.hid ha2
      obtain ⟨fl2, hfl2⟩ : ∃ fl2, ((blm.places name.data.toList m).take k).foldl blm.setB fl = fl2 := ⟨_, rfl⟩
      have hfl2n : fl2.length = n := by rw [← hfl2, blm.fold_len, Hn.out]
      have hnext : ((blm.places name.data.toList m).take (k + 1)).foldl blm.setB fl = blm.setB fl2 r := by rw [hpt, List.foldl_append, hfl2]; rfl
      rw [hfl2] at hFr
      rw [← hfl2n] at hcr hcap
      have hset := set_any fl2 r Bb g cap wr (by omega) (by rw [hfl2n, Hm.out]; exact hpp) hcr hcap hFr
      have HSET := Lib.hid hset
      have HN := Lib.hid hnext
      clear hpt hr ha2 hfl2 hfl2n hnext hset hcr hcap hc hF hFr hl hl0
      go_wp2_with (go_at_call 21; refine HSET.out.mono ?_; rintro e w3 ⟨rfl, hF3, hg3⟩)
      go_roundw
      case rel => exact ⟨k + 1, a2, by omega, by go_num, slot_u32 hnx, ha24, HA2.out.symm, by rw [HN.out]; exact hF3, grown_trans hgr hg3⟩
      case measure => simp [intOf]; omega
    · obtain rfl : k = 4 := by omega
      go_wp2
      go_ret
      exact ⟨rfl, by rw [Hadd.out]; exact hFr, hgr⟩

set_option maxHeartbeats 2000000 in
theorem places_ask (name s : ByteArray) (Bs : Nat) (w : World) (hs : name.size ≤ 1000000) (hl0 : 0 < s.size) (hl : s.size ≤ 100000)
    (hc : w.cell? ⟨Bs, 0, none⟩ = some (.string s)) (ht : TabAt w) :
    Calls Tryd.prog 20 #[.string name, .int .i64 ((8 * s.size : Nat) : Int), .func (.func 26) #[] #[.pointer (some ⟨Bs, 0, none⟩)]] w fun e w' =>
      e = .returned (.bool ((blm.places name.data.toList (8 * s.size)).all (blm.getB s.data.toList))) ∧ Below w.heap.size w w' := by
  have hs1 : name.size ≤ maxLen := by unfold maxLen; omega
  have z1 : (ByteArray.mk #[1]).size ≤ maxLen := by decide
  obtain ⟨m, hm⟩ : ∃ m, 8 * s.size = m := ⟨_, rfl⟩
  rw [hm]
  have hm0 : 0 < m := by omega
  have hm1 : m ≤ 1000000 := by omega
  have ha4 := sum_lt2 name.data.toList
  have hb4 := sum_lt2 (name.data.toList ++ [1])
  have hmo : crcm.more (crcm.sum name.data.toList) [1] = crcm.sum (name.data.toList ++ [1]) := crcm.more_sum _ _
  have hpl : ∀ k, (crcm.sum name.data.toList + k * crcm.sum (name.data.toList ++ [1])) % 4294967296 % m = blm.place name.data.toList m k := fun k => rfl
  obtain ⟨a, hae⟩ : ∃ a, crcm.sum name.data.toList = a := ⟨_, rfl⟩
  obtain ⟨b, hbe⟩ : ∃ b, crcm.sum (name.data.toList ++ [1]) = b := ⟨_, rfl⟩
  rw [hae] at ha4 hpl hmo
  rw [hbe] at hb4 hpl hmo
  have Hae := Lib.hid hae
  have Hmo := Lib.hid hmo
  have Hpl := Lib.hid hpl
  have Hm := Lib.hid hm
  clear hae hbe hpl hmo hm
  go_enter Tryd.func20, Tryd.ntmps20
  go_wp2_with fail
  refine (sum_any name w hs1 ht).mono ?_
  rw [Hae.out]
  rintro e w1 ⟨rfl, hb1⟩
  have ht1 := ht.below hb1 ht.1
  go_wp2_with fail
  refine (more_any a _ w1 ha4 z1 ht1).mono ?_
  rw [show (ByteArray.mk #[1]).data.toList = [1] from rfl, Hmo.out]
  rintro e w2 ⟨rfl, hb2⟩
  have hb02 : Below w.heap.size w w2 := hb1.trans (hb2.mono hb1.size)
  have hc2 := cell_later hb02 hc
  clear ht1 hb1 hb2
  go_wp2_with fail
  go_loop [7, 13] (fun x i => ∃ (k ak : Nat), k ≤ 4 ∧ i = .int .i64 k ∧ x = .int .u32 (ak : Int) ∧ ak < 4294967296 ∧ ak = (a + k * b) % 4294967296 ∧ ((blm.places name.data.toList m).take k).all (blm.getB s.data.toList) = true) (fun _ i => 4 - (intOf i).toNat)
  case atStart => exact ⟨0, a, Nat.zero_le _, rfl, rfl, ha4, by rw [Nat.zero_mul, Nat.add_zero]; exact (Nat.mod_eq_of_lt ha4).symm, rfl⟩
  case round =>
    obtain ⟨k, ak, hk, rfl, rfl, hak, hake, hall⟩ := hrel
    have HAK := Lib.hid hake
    have HALL := Lib.hid hall
    clear hake hall
    by_cases hlt : k < 4
    · have hmod : (ak : Int) % (m : Int) = (blm.place name.data.toList m k : Nat) := by rw [← Hpl.out k, ← HAK.out, Int.natCast_emod]
      have hnx : ((ak : Int) + (b : Int)) % 4294967296 = (((a + (k + 1) * b) % 4294967296 : Nat) : Int) := by rw [HAK.out]; exact step_mod a b k
      have hpt := places_take name.data.toList m k hlt
      have hpp : blm.place name.data.toList m k < m := blm.place_lt hm0
      obtain ⟨r, hr⟩ : ∃ r, blm.place name.data.toList m k = r := ⟨_, rfl⟩
      rw [hr] at hmod hpp hpt
      obtain ⟨a2, ha2⟩ : ∃ a2, (a + (k + 1) * b) % 4294967296 = a2 := ⟨_, rfl⟩
      have ha24 : a2 < 4294967296 := by omega
      rw [ha2] at hnx
      have HA2 := Lib.hid ha2
      have hask := ask_any s r Bs w2 (by omega) (by rw [Hm.out]; exact hpp) hc2
      have HPT := Lib.hid hpt
      have hmem : r ∈ blm.places name.data.toList m := by
        have : r ∈ (blm.places name.data.toList m).take (k + 1) := by rw [HPT.out]; simp
        exact List.mem_of_mem_take this
      have HMEM := Lib.hid hmem
      clear hpt hr ha2 hc2 hc hmem
      by_cases hg : blm.getB s.data.toList r = true
      · rw [hg] at hask
        have HASK := Lib.hid hask
        have HG := Lib.hid hg
        clear hask hg
        go_wp2_with (go_at_call 26; refine HASK.out.mono ?_; rintro e w3 ⟨rfl, rfl⟩)
        go_round
        case rel => exact ⟨k + 1, a2, by omega, by go_num, slot_u32 hnx, ha24, HA2.out.symm, by rw [HPT.out, List.all_append, HALL.out, List.all_cons, HG.out]; rfl⟩
        case measure => simp [intOf]; omega
      · have hg' : blm.getB s.data.toList r = false := by simpa using hg
        rw [hg'] at hask
        have HASK := Lib.hid hask
        have hno : (blm.places name.data.toList m).all (blm.getB s.data.toList) = false := by
          rw [List.all_eq_false]
          exact ⟨r, HMEM.out, by rw [hg']; simp⟩
        have HNO := Lib.hid hno
        clear hask hg hg' hno
        go_wp2_with (go_at_call 26; refine HASK.out.mono ?_; rintro e w3 ⟨rfl, rfl⟩)
        go_ret
        exact ⟨by rw [HNO.out]; rfl, hb02⟩
    · obtain rfl : k = 4 := by omega
      go_wp2
      go_ret
      have h4 : (blm.places name.data.toList m).take 4 = blm.places name.data.toList m := rfl
      exact ⟨by rw [← h4, HALL.out]; rfl, hb02⟩
end Go.Proofs.YtckchihdeimgpaaDoor
