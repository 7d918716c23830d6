/- Getting a text back, walked: what crc.Get comes to is the plain get. -/
import Derived.Test.YtdnoeahhidmkbaaDoorCrcPut
import Derived.Deep.RegionWith
import Derived.WalkSmall
import Derived.Lib.Strings
namespace Go.Proofs.YtdnoeahhidmkbaaDoor
open Go Go.RowKit
set_option maxRecDepth 100000

theorem rsum_any (s : ByteArray) (w : World) (hs : s.size ≤ maxLen) :
    Calls Tryd.prog 97 #[.string s] w fun e w' => e = .returned (.int .u32 (crcm.sum s.data.toList : Nat)) ∧ w = w' := by
  go_enter Tryd.func97, Tryd.ntmps97
  go_wp2_with (go_at_call 106; refine (rmore_any 0 s _ (by decide) hs).mono ?_; rintro e w' ⟨rfl, rfl⟩)
  go_ret
  exact ⟨rfl, rfl⟩

theorem byte_at (s : ByteArray) (k : Nat) (h : k < s.size) : s[k] = s.data.toList.getD k 0 := by
  rw [List.getD_eq_getElem?_getD, List.getElem?_eq_getElem (by rw [crcm.size_len]; exact h)]; rfl


theorem not_empty (s : ByteArray) (h : 0 < s.size) : s.toList.isEmpty = false := by
  rw [ByteArray.toList_eq]
  have := crcm.size_len s
  cases hl : s.data.toList with
  | nil => rw [hl] at this; simp at this; omega
  | cons a b => rfl
theorem u32_or_join (i a b : Nat) (ha : a < 2 ^ i) (hb : b % 2 ^ i = 0) (ha4 : a < 4294967296) (hb4 : b < 4294967296) : bits .or .u32 (a : Int) (b : Int) = ((a + b : Nat) : Int) := by
  rw [u32_or_nat a b ha4 hb4, Nat.or_comm, nat_join i b a hb ha, Nat.add_comm]
theorem or8 (a b : UInt8) : bits .or .u32 (a.toNat : Int) ((b.toNat : Int) * 256) = ((a.toNat + 256 * b.toNat : Nat) : Int) := by
  have := a.toNat_lt
  have := b.toNat_lt
  rw [show (b.toNat : Int) * 256 = ((256 * b.toNat : Nat) : Int) from by omega]
  exact u32_or_join 8 _ _ (by omega) (by omega) (by omega) (by omega)
theorem or16 (x : Nat) (hx : x < 65536) (b : UInt8) : bits .or .u32 (x : Int) ((b.toNat : Int) * 65536) = ((x + 65536 * b.toNat : Nat) : Int) := by
  have := b.toNat_lt
  rw [show (b.toNat : Int) * 65536 = ((65536 * b.toNat : Nat) : Int) from by omega]
  exact u32_or_join 16 _ _ (by omega) (by omega) (by omega) (by omega)
theorem or24 (x : Nat) (hx : x < 16777216) (b : UInt8) : bits .or .u32 (x : Int) ((b.toNat : Int) * 16777216) = ((x + 16777216 * b.toNat : Nat) : Int) := by
  have := b.toNat_lt
  rw [show (b.toNat : Int) * 16777216 = ((16777216 * b.toNat : Nat) : Int) from by omega]
  exact u32_or_join 24 _ _ (by omega) (by omega) (by omega) (by omega)

theorem tab_of_heap {w W : World} (h : TabAt w) (e : W.heap = w.heap) : TabAt W :=
  ⟨by rw [e]; exact h.1, fun i hi => by rw [← h.2 i hi]; unfold World.cell?; rw [e]⟩
theorem below_of_heap {w W W' : World} {B : Nat} (h : Below B W W') (e1 : W.heap = w.heap) (e2 : W.os = w.os) (e3 : W.tape = w.tape) (e4 : W.output = w.output) : Below B w W' :=
  ⟨h.os.trans e2, h.tape.trans e3, h.output.trans e4, by rw [← e1]; exact h.size, fun k hk => by rw [← e1]; exact h.block k hk⟩
theorem tab_after {w W W' : World} {B : Nat} (h : TabAt w) (hb : Below B W W') (hB : 0 < B) (e : W.heap = w.heap) : TabAt W' := (tab_of_heap h e).below hb hB
theorem extract_le (s : ByteArray) (a b : Nat) (h : s.size ≤ 2 ^ 63 - 1) : (s.extract a b).size ≤ maxLen := by
  unfold maxLen
  have h1 := crcm.size_len (s.extract a b)
  have h2 := crcm.size_len s
  rw [Lib.extract_data, List.length_take, List.length_drop] at h1
  omega

def GetPost (s : ByteArray) (w : World) (e : Ending) (w' : World) : Prop :=
  e = .returned (.tuple #[.string (crcm.mk (crcm.get s.data.toList).1), .int .i64 ((crcm.get s.data.toList).2.1 : Nat), .int .i64 ((crcm.get s.data.toList).2.2 : Nat)]) ∧ Below w.heap.size w w'

theorem get_none (s : ByteArray) (w : World) (h : s.size = 0) : Calls Tryd.prog 86 #[.string s] w (GetPost s w) := by
  have hl := crcm.size_len s
  have hnil : s.data.toList = [] := List.eq_nil_of_length_eq_zero (by omega)
  have hfin : crcm.get s.data.toList = ([], 0, 3) := by rw [hnil]; rfl
  have hne : s.toList.isEmpty = true := by rw [ByteArray.toList_eq, hnil]; rfl
  have Hfin := Lib.hid hfin
  have Hh := Lib.hid h
  clear hl hfin hnil h
  go_enter Tryd.func86, Tryd.ntmps86
  go_wp2_with fail
  go_ret3
  unfold GetPost
  rw [Hfin.out]
  exact ⟨rfl, Below.refl _ _⟩
theorem get_little (s : ByteArray) (w : World) (h : 0 < s.size) (h6 : s.size < 6) : Calls Tryd.prog 86 #[.string s] w (GetPost s w) := by
  have hl := crcm.size_len s
  have hfin : crcm.get s.data.toList = ([], 0, 10) := by
    unfold crcm.get
    rw [if_neg (by intro e; rw [e] at hl; simp at hl; omega), if_pos (by omega)]
  have hne := not_empty s h
  have Hfin := Lib.hid hfin
  clear hl hfin
  go_enter Tryd.func86, Tryd.ntmps86
  go_wp2_with fail
  go_ret3
  unfold GetPost
  rw [Hfin.out]
  exact ⟨rfl, Below.refl _ _⟩

set_option maxHeartbeats 1000000 in
theorem get_cut (s : ByteArray) (w : World) (h6 : 6 ≤ s.size) (hs : s.size ≤ maxLen) (hn : s.size < 6 + crcm.said s.data.toList) :
    Calls Tryd.prog 86 #[.string s] w (GetPost s w) := by
  have hl := crcm.size_len s
  have hfin : crcm.get s.data.toList = ([], 0, 10) := by
    unfold crcm.get
    rw [if_neg (by intro e; rw [e] at hl; simp at hl; omega), if_neg (by omega), if_pos (by omega)]
  have Hfin := Lib.hid hfin
  clear hl hfin
  unfold maxLen at hs
  have g0 := byte_at s 0 (by omega)
  have g1 := byte_at s 1 (by omega)
  have hne := not_empty s (by omega)
  unfold crcm.said at hn
  obtain ⟨b0, hb0⟩ : ∃ b : UInt8, s.data.toList.getD 0 0 = b := ⟨_, rfl⟩
  obtain ⟨b1, hb1⟩ : ∃ b : UInt8, s.data.toList.getD 1 0 = b := ⟨_, rfl⟩
  rw [hb0] at g0 hn
  rw [hb1] at g1 hn
  clear hb0 hb1
  have l0 : b0.toNat < 256 := b0.toNat_lt
  have l1 : b1.toNat < 256 := b1.toNat_lt
  have p1 : (1 : Int) < (s.size : Int) := by omega
  go_enter Tryd.func86, Tryd.ntmps86
  go_wp2_with fail
  go_quiet (fail)
  go_wp2_with fail
  go_ret3
  unfold GetPost
  rw [Hfin.out]
  exact ⟨rfl, below_drewN (Below.refl _ _) _⟩

theorem said_of (s : ByteArray) (en : Nat) (b0 b1 : UInt8) (hb0 : s.data.toList.getD 0 0 = b0) (hb1 : s.data.toList.getD 1 0 = b1) (h : 6 + (b0.toNat + 256 * b1.toNat) = en) : en - 6 = crcm.said s.data.toList := by
  unfold crcm.said; rw [hb0, hb1]; omega

set_option maxHeartbeats 2000000 in
theorem get_full (s : ByteArray) (w : World) (h6 : 6 ≤ s.size) (hs : s.size ≤ maxLen) (hn : 6 + crcm.said s.data.toList ≤ s.size) (ht : TabAt w) :
    Calls Tryd.prog 86 #[.string s] w (GetPost s w) := by
  have hl := crcm.size_len s
  have hfin := crcm.get_six s.data.toList (by omega) (by omega)
  clear hl
  unfold crcm.num4 at hfin
  unfold maxLen at hs
  have g0 := byte_at s 0 (by omega)
  have g1 := byte_at s 1 (by omega)
  have g2 := byte_at s 2 (by omega)
  have g3 := byte_at s 3 (by omega)
  have g4 := byte_at s 4 (by omega)
  have g5 := byte_at s 5 (by omega)
  have hne := not_empty s (by omega)
  obtain ⟨N, hN⟩ : ∃ N, crcm.said s.data.toList = N := ⟨_, rfl⟩
  rw [hN] at hfin hn
  unfold crcm.said at hN
  obtain ⟨b0, hb0⟩ : ∃ b : UInt8, s.data.toList.getD 0 0 = b := ⟨_, rfl⟩
  obtain ⟨b1, hb1⟩ : ∃ b : UInt8, s.data.toList.getD 1 0 = b := ⟨_, rfl⟩
  obtain ⟨b2, hb2⟩ : ∃ b : UInt8, s.data.toList.getD 2 0 = b := ⟨_, rfl⟩
  obtain ⟨b3, hb3⟩ : ∃ b : UInt8, s.data.toList.getD 3 0 = b := ⟨_, rfl⟩
  obtain ⟨b4, hb4⟩ : ∃ b : UInt8, s.data.toList.getD 4 0 = b := ⟨_, rfl⟩
  obtain ⟨b5, hb5⟩ : ∃ b : UInt8, s.data.toList.getD 5 0 = b := ⟨_, rfl⟩
  rw [hb0] at g0 hN
  rw [hb1] at g1 hN
  rw [hb2] at g2 hfin
  rw [hb3] at g3 hfin
  rw [hb4] at g4 hfin
  rw [hb5] at g5 hfin
  clear hb0 hb1 hb2 hb3 hb4 hb5
  have l0 : b0.toNat < 256 := b0.toNat_lt
  have l1 : b1.toNat < 256 := b1.toNat_lt
  have l2 : b2.toNat < 256 := b2.toNat_lt
  have l3 : b3.toNat < 256 := b3.toNat_lt
  have l4 : b4.toNat < 256 := b4.toNat_lt
  have l5 : b5.toNat < 256 := b5.toNat_lt
  have p1 : (1 : Int) < (s.size : Int) := by omega
  have p2 : (2 : Int) < (s.size : Int) := by omega
  have p3 : (3 : Int) < (s.size : Int) := by omega
  have p4 : (4 : Int) < (s.size : Int) := by omega
  have p5 : (5 : Int) < (s.size : Int) := by omega
  have o1 := or8 b2 b3
  obtain ⟨x1, hx1⟩ : ∃ x, b2.toNat + 256 * b3.toNat = x := ⟨_, rfl⟩
  have o2 := or16 x1 (by omega) b4
  obtain ⟨x2, hx2⟩ : ∃ x, x1 + 65536 * b4.toNat = x := ⟨_, rfl⟩
  have o3 := or24 x2 (by omega) b5
  obtain ⟨x3, hx3⟩ : ∃ x, x2 + 16777216 * b5.toNat = x := ⟨_, rfl⟩
  rw [hx1] at o1
  rw [hx2] at o2
  rw [hx3] at o3
  obtain ⟨en, hen⟩ : ∃ en, 6 + (b0.toNat + 256 * b1.toNat) = en := ⟨_, rfl⟩
  have he : (6 : Int) + (b0.toNat : Int) + (b1.toNat : Int) * 256 = (en : Int) := by omega
  have he2 : en ≤ s.size := by omega
  have he3 : 6 ≤ en := by omega
  have Hx1 := Lib.hid hx1
  have Hx2 := Lib.hid hx2
  have Hx3 := Lib.hid hx3
  have Hen := Lib.hid hen
  have hx : b2.toNat + 256 * b3.toNat + 65536 * b4.toNat + 16777216 * b5.toNat = x3 := by omega
  rw [hx] at hfin
  have heN : en - 6 = N := by omega
  have hsum : crcm.more (crcm.sum (s.data.toList.take 2)) ((s.data.toList.drop 6).take (en - 6)) = crcm.sum (s.data.toList.take 2 ++ (s.data.toList.drop 6).take N) := by rw [crcm.more_sum, heN]
  rw [← hsum] at hfin
  have hen2 : 6 + N = en := by omega
  rw [hen2, ← heN] at hfin
  obtain ⟨y, hy⟩ : ∃ y, crcm.more (crcm.sum (s.data.toList.take 2)) ((s.data.toList.drop 6).take (en - 6)) = y := ⟨_, rfl⟩
  rw [hy] at hfin
  have hmk : s.extract 6 en = crcm.mk ((s.data.toList.drop 6).take (en - 6)) := by rw [Lib.extract_eq]; rfl
  have Hmk := Lib.hid hmk
  clear hmk hx1 hx2 hx3 hen hx hsum heN hen2 hN hn Hx1 Hx2 Hx3 Hen
  have hyc : ∀ z : Nat, ((z : Int) != (x3 : Int)) = !decide (z = x3) := fun z => by
    by_cases h : z = x3
    · subst h; simp
    · have : (z : Int) ≠ (x3 : Int) := by omega
      simp [h, this]
  have Hyc := Lib.hid hyc
  clear hyc
  by_cases hyx : y = x3
  · have hv : ((y : Int) != (x3 : Int)) = false := by rw [Hyc.out]; simp [hyx]
    rw [if_pos hyx] at hfin
    have Hfin := Lib.hid hfin
    clear hfin hyx Hyc
    go_enter Tryd.func86, Tryd.ntmps86
    go_wp2_with fail
    go_quiet (fail)
    go_wp2_with fail
    go_quiet (fail)
    go_wp2_with fail
    go_region_with (first | (go_at_call 104; refine (sum_any _ _ ?_ ?_).mono ?_; exact extract_le _ _ _ hs; exact tab_of_heap ht rfl; rintro e w2 ⟨rfl, hb2⟩) | (go_at_call 103; refine (more_any _ _ _ ?_ ?_ ?_).mono ?_; exact crcm.more_lt _ _; exact extract_le _ _ _ hs; exact tab_after ht hb2 ht.1 rfl; rintro e w3 ⟨rfl, hb3⟩))
    all_goals (go_wp2_with fail)
    all_goals go_ret3
    all_goals unfold GetPost
    all_goals rw [Hfin.out, Hmk.out]
    all_goals exact ⟨rfl, below_of_heap (hb2.trans (hb3.mono hb2.size)) rfl rfl rfl rfl⟩
  · have hv : ((y : Int) != (x3 : Int)) = true := by rw [Hyc.out]; simp [hyx]
    rw [if_neg hyx] at hfin
    have Hfin := Lib.hid hfin
    clear hfin hyx Hyc
    go_enter Tryd.func86, Tryd.ntmps86
    go_wp2_with fail
    go_quiet (fail)
    go_wp2_with fail
    go_quiet (fail)
    go_wp2_with fail
    go_region_with (first | (go_at_call 104; refine (sum_any _ _ ?_ ?_).mono ?_; exact extract_le _ _ _ hs; exact tab_of_heap ht rfl; rintro e w2 ⟨rfl, hb2⟩) | (go_at_call 103; refine (more_any _ _ _ ?_ ?_ ?_).mono ?_; exact crcm.more_lt _ _; exact extract_le _ _ _ hs; exact tab_after ht hb2 ht.1 rfl; rintro e w3 ⟨rfl, hb3⟩))
    all_goals (go_wp2_with fail)
    all_goals go_ret3
    all_goals unfold GetPost
    all_goals rw [Hfin.out]
    all_goals exact ⟨rfl, below_of_heap (hb2.trans (hb3.mono hb2.size)) rfl rfl rfl rfl⟩

theorem get_any (s : ByteArray) (w : World) (hs : s.size ≤ maxLen) (ht : TabAt w) : Calls Tryd.prog 86 #[.string s] w (GetPost s w) := by
  by_cases h0 : s.size = 0
  · exact get_none s w h0
  · by_cases h6 : s.size < 6
    · exact get_little s w (by omega) h6
    · by_cases hn : 6 + crcm.said s.data.toList ≤ s.size
      · exact get_full s w (by omega) hs hn ht
      · exact get_cut s w (by omega) hs (by omega)
end Go.Proofs.YtdnoeahhidmkbaaDoor
