/- Numbers as bytes, the lowest first: walked, both ways. -/
import Derived.Test.YtdnoeahhidmkbaaDoorSvStrs
import Derived.Laws.IdiomStrings
import Derived.Lib.ConvBytes
import Derived.OwnWalk
import Derived.LoopTactic
namespace Go.Proofs.YtdnoeahhidmkbaaDoor.Sv
open Go Go.RowKit
set_option maxRecDepth 100000

namespace rl
/-- eight bytes of a number, the lowest first -/
def le8 (n : Nat) : List UInt8 := [UInt8.ofNat n, UInt8.ofNat (n / 256), UInt8.ofNat (n / 65536), UInt8.ofNat (n / 16777216), UInt8.ofNat (n / 4294967296), UInt8.ofNat (n / 1099511627776), UInt8.ofNat (n / 281474976710656), UInt8.ofNat (n / 72057594037927936)]
theorem le8_len (n : Nat) : (le8 n).length = 8 := rfl
/-- and the number again -/
def num (l : List UInt8) : Nat := l.foldr (fun b n => b.toNat + 256 * n) 0
theorem num_le8 (n : Nat) (h : n < 18446744073709551616) : num (le8 n) = n := by
  unfold num le8
  simp only [List.foldr_cons, List.foldr_nil, UInt8.toNat_ofNat']
  omega
theorem num8 (a b c d e f g h : UInt8) : num [a, b, c, d, e, f, g, h] = a.toNat + 256 * b.toNat + 65536 * c.toNat + 16777216 * d.toNat + 4294967296 * e.toNat + 1099511627776 * f.toNat + 281474976710656 * g.toNat + 72057594037927936 * h.toNat := by
  unfold num
  simp only [List.foldr_cons, List.foldr_nil]
  omega
theorem eight (l : List UInt8) (h : l.length = 8) : ∃ a b c d e f g h, l = [a, b, c, d, e, f, g, h] := by
  match l, h with
  | [a, b, c, d, e, f, g, h], _ => exact ⟨a, b, c, d, e, f, g, h, rfl⟩
theorem num_lt (l : List UInt8) (h : l.length = 8) : num l < 18446744073709551616 := by
  obtain ⟨a, b, c, d, e, f, g, i, rfl⟩ := eight l h
  clear h
  rw [num8]
  have := a.toNat_lt
  have := b.toNat_lt
  have := c.toNat_lt
  have := d.toNat_lt
  have := e.toNat_lt
  have := f.toNat_lt
  have := g.toNat_lt
  have := i.toNat_lt
  omega
end rl
def le8V (n k : Nat) : List Value := ((rl.le8 n).take k).map fun b => Value.int .u8 (b.toNat : Int)
def byteV (b : UInt8) : Value := .int .u8 (b.toNat : Int)
theorem info_u8 : (Tryd.prog.info? 5).map (fun i => (i.zero, i.size, i.bytes)) = some (some (.int .u8 0), 1, 1) := by kernel_rfl
theorem byteV_of (m : Nat) (x : Int) (h : (m : Int) = x) : byteV (UInt8.ofNat m) = .int .u8 (x % 256) := by
  unfold byteV
  rw [UInt8.toNat_ofNat', ← h]
  rfl
theorem intV_one (k : IntKind) (x : Int) : ∀ u ∈ [Value.int k x], u.oneCell' = true := by intro u hu; simp at hu; subst hu; rfl
theorem owns_cellsD {w : World} {base : Nat} {e : TypeId} {n : Nat} {v : Value} {xs : List Value} (h : w.ownsRow base e 1 v n xs) (hn : 0 < n) : ∃ g cap, v = .slice (some ⟨g, 0, none⟩) n cap ∧ ∀ j u, xs[j]? = some u → w.cell? ((⟨g, 0, none⟩ : Addr).add j) = some u := by
  have h' := h
  rcases h.2 with ⟨_, h0⟩ | ⟨g, cap, cur, rfl, _⟩
  · omega
  · exact ⟨g, cap, rfl, h'.cells (g := g) rfl⟩

theorem le8_step0 (n : Nat) : le8V n 0 ++ [.int .u8 ((n : Int) % 256)] = le8V n 1 := by
  rw [← byteV_of (n) ((n : Int)) (by omega)]
  rfl
theorem le8_step1 (n : Nat) : le8V n 1 ++ [.int .u8 ((n : Int) / 256 % 256)] = le8V n 2 := by
  rw [← byteV_of (n / 256) ((n : Int) / 256) (by omega)]
  rfl
theorem le8_step2 (n : Nat) : le8V n 2 ++ [.int .u8 ((n : Int) / 65536 % 256)] = le8V n 3 := by
  rw [← byteV_of (n / 65536) ((n : Int) / 65536) (by omega)]
  rfl
theorem le8_step3 (n : Nat) : le8V n 3 ++ [.int .u8 ((n : Int) / 16777216 % 256)] = le8V n 4 := by
  rw [← byteV_of (n / 16777216) ((n : Int) / 16777216) (by omega)]
  rfl
theorem le8_step4 (n : Nat) : le8V n 4 ++ [.int .u8 ((n : Int) / 4294967296 % 256)] = le8V n 5 := by
  rw [← byteV_of (n / 4294967296) ((n : Int) / 4294967296) (by omega)]
  rfl
theorem le8_step5 (n : Nat) : le8V n 5 ++ [.int .u8 ((n : Int) / 1099511627776 % 256)] = le8V n 6 := by
  rw [← byteV_of (n / 1099511627776) ((n : Int) / 1099511627776) (by omega)]
  rfl
theorem le8_step6 (n : Nat) : le8V n 6 ++ [.int .u8 ((n : Int) / 281474976710656 % 256)] = le8V n 7 := by
  rw [← byteV_of (n / 281474976710656) ((n : Int) / 281474976710656) (by omega)]
  rfl
theorem le8_step7 (n : Nat) (h : n < 18446744073709551616) : le8V n 7 ++ [.int .u8 ((n : Int) / 72057594037927936)] = le8V n 8 := by
  have : (.int .u8 ((n : Int) / 72057594037927936) : Value) = byteV (UInt8.ofNat (n / 72057594037927936)) := by
    rw [byteV_of (n / 72057594037927936) ((n : Int) / 72057594037927936) (by omega), Int.emod_eq_of_lt (by omega) (by omega)]
  rw [this]
  rfl
set_option maxHeartbeats 4000000 in
theorem little_any (n : Nat) (w : World) (hn : n < 18446744073709551616) :
    Calls Tryd.prog 57 #[.int .u64 (n : Int), .int .i64 8] w fun e w' => e = .returned (.string (crcm.mk (rl.le8 n))) ∧ Below w.heap.size w w' := by
  obtain ⟨i0, hi, hz0, hz1, hz2⟩ := info_parts info_u8
  go_enter Tryd.func57, Tryd.ntmps57
  go_wp2
  go_loopw [5, 8] (fun v i wr => ∃ k : Nat, k ≤ 8 ∧ i = .int .i64 k ∧ wr.ownsRow w.heap.size 5 1 v k (le8V n k) ∧ Below w.heap.size w wr) (fun _ i _ => 8 - (intOf i).toNat)
  case atStart => exact ⟨0, by omega, rfl, World.ownsRow_nil _ _ _ _, Below.refl _ _⟩
  case round =>
    obtain ⟨k, hk, rfl, hown, hb⟩ := hrel
    have hc : k = 0 ∨ k = 1 ∨ k = 2 ∨ k = 3 ∨ k = 4 ∨ k = 5 ∨ k = 6 ∨ k = 7 ∨ k = 8 := by omega
    have HO := Lib.hid hown
    clear hown
    obtain ⟨v, hv⟩ : ∃ v : Value, v = v := ⟨.bool true, rfl⟩
    clear v hv
    rcases hc with rfl | rfl | rfl | rfl | rfl | rfl | rfl | rfl | rfl
    · have hsz := hb.size
      go_wp2_with (at_builtin; refine wpList_append_own _ rfl _ _ 37 rfl w.heap.size 5 i0 _ 1 1 Tryd.underlying37 hi hz0 hz1 hz2 rfl (by decide) _ _ _ rfl (HO.out.alloc _) ⟨wr.heap.size, 0, none⟩ 1 1 [.int .u8 ((n : Int) % 256)] rfl rfl ?c1 ?c2 ?c3 ?c4 ?c5 ?_)
      case c1 => exact cell_new1 _ _ _
      case c2 => exact intV_one _ _
      case c3 => unfold maxLen; omega
      case c4 => omega
      case c5 => simp; omega
      intro v' w1 hown' hgrow _
      rw [le8_step0] at hown'
      have hb1 : Below w.heap.size w w1 := (hb.alloc hsz _).grown hgrow (by simp; omega) (fun j hj => (HO.out.lt j hj).1)
      have HO1 := Lib.hid hown'
      clear hown' hgrow
      go_wp2
      go_roundw
      case rel => exact ⟨1, by omega, rfl, HO1.out, hb1⟩
      case measure => simp [intOf]
    · have hsz := hb.size
      go_wp2_with (at_builtin; refine wpList_append_own _ rfl _ _ 37 rfl w.heap.size 5 i0 _ 1 1 Tryd.underlying37 hi hz0 hz1 hz2 rfl (by decide) _ _ _ rfl (HO.out.alloc _) ⟨wr.heap.size, 0, none⟩ 1 1 [.int .u8 ((n : Int) / 256 % 256)] rfl rfl ?c1 ?c2 ?c3 ?c4 ?c5 ?_)
      case c1 => exact cell_new1 _ _ _
      case c2 => exact intV_one _ _
      case c3 => unfold maxLen; omega
      case c4 => omega
      case c5 => simp; omega
      intro v' w1 hown' hgrow _
      rw [le8_step1] at hown'
      have hb1 : Below w.heap.size w w1 := (hb.alloc hsz _).grown hgrow (by simp; omega) (fun j hj => (HO.out.lt j hj).1)
      have HO1 := Lib.hid hown'
      clear hown' hgrow
      go_wp2
      go_roundw
      case rel => exact ⟨2, by omega, rfl, HO1.out, hb1⟩
      case measure => simp [intOf]
    · have hsz := hb.size
      go_wp2_with (at_builtin; refine wpList_append_own _ rfl _ _ 37 rfl w.heap.size 5 i0 _ 1 1 Tryd.underlying37 hi hz0 hz1 hz2 rfl (by decide) _ _ _ rfl (HO.out.alloc _) ⟨wr.heap.size, 0, none⟩ 1 1 [.int .u8 ((n : Int) / 65536 % 256)] rfl rfl ?c1 ?c2 ?c3 ?c4 ?c5 ?_)
      case c1 => exact cell_new1 _ _ _
      case c2 => exact intV_one _ _
      case c3 => unfold maxLen; omega
      case c4 => omega
      case c5 => simp; omega
      intro v' w1 hown' hgrow _
      rw [le8_step2] at hown'
      have hb1 : Below w.heap.size w w1 := (hb.alloc hsz _).grown hgrow (by simp; omega) (fun j hj => (HO.out.lt j hj).1)
      have HO1 := Lib.hid hown'
      clear hown' hgrow
      go_wp2
      go_roundw
      case rel => exact ⟨3, by omega, rfl, HO1.out, hb1⟩
      case measure => simp [intOf]
    · have hsz := hb.size
      go_wp2_with (at_builtin; refine wpList_append_own _ rfl _ _ 37 rfl w.heap.size 5 i0 _ 1 1 Tryd.underlying37 hi hz0 hz1 hz2 rfl (by decide) _ _ _ rfl (HO.out.alloc _) ⟨wr.heap.size, 0, none⟩ 1 1 [.int .u8 ((n : Int) / 16777216 % 256)] rfl rfl ?c1 ?c2 ?c3 ?c4 ?c5 ?_)
      case c1 => exact cell_new1 _ _ _
      case c2 => exact intV_one _ _
      case c3 => unfold maxLen; omega
      case c4 => omega
      case c5 => simp; omega
      intro v' w1 hown' hgrow _
      rw [le8_step3] at hown'
      have hb1 : Below w.heap.size w w1 := (hb.alloc hsz _).grown hgrow (by simp; omega) (fun j hj => (HO.out.lt j hj).1)
      have HO1 := Lib.hid hown'
      clear hown' hgrow
      go_wp2
      go_roundw
      case rel => exact ⟨4, by omega, rfl, HO1.out, hb1⟩
      case measure => simp [intOf]
    · have hsz := hb.size
      go_wp2_with (at_builtin; refine wpList_append_own _ rfl _ _ 37 rfl w.heap.size 5 i0 _ 1 1 Tryd.underlying37 hi hz0 hz1 hz2 rfl (by decide) _ _ _ rfl (HO.out.alloc _) ⟨wr.heap.size, 0, none⟩ 1 1 [.int .u8 ((n : Int) / 4294967296 % 256)] rfl rfl ?c1 ?c2 ?c3 ?c4 ?c5 ?_)
      case c1 => exact cell_new1 _ _ _
      case c2 => exact intV_one _ _
      case c3 => unfold maxLen; omega
      case c4 => omega
      case c5 => simp; omega
      intro v' w1 hown' hgrow _
      rw [le8_step4] at hown'
      have hb1 : Below w.heap.size w w1 := (hb.alloc hsz _).grown hgrow (by simp; omega) (fun j hj => (HO.out.lt j hj).1)
      have HO1 := Lib.hid hown'
      clear hown' hgrow
      go_wp2
      go_roundw
      case rel => exact ⟨5, by omega, rfl, HO1.out, hb1⟩
      case measure => simp [intOf]
    · have hsz := hb.size
      go_wp2_with (at_builtin; refine wpList_append_own _ rfl _ _ 37 rfl w.heap.size 5 i0 _ 1 1 Tryd.underlying37 hi hz0 hz1 hz2 rfl (by decide) _ _ _ rfl (HO.out.alloc _) ⟨wr.heap.size, 0, none⟩ 1 1 [.int .u8 ((n : Int) / 1099511627776 % 256)] rfl rfl ?c1 ?c2 ?c3 ?c4 ?c5 ?_)
      case c1 => exact cell_new1 _ _ _
      case c2 => exact intV_one _ _
      case c3 => unfold maxLen; omega
      case c4 => omega
      case c5 => simp; omega
      intro v' w1 hown' hgrow _
      rw [le8_step5] at hown'
      have hb1 : Below w.heap.size w w1 := (hb.alloc hsz _).grown hgrow (by simp; omega) (fun j hj => (HO.out.lt j hj).1)
      have HO1 := Lib.hid hown'
      clear hown' hgrow
      go_wp2
      go_roundw
      case rel => exact ⟨6, by omega, rfl, HO1.out, hb1⟩
      case measure => simp [intOf]
    · have hsz := hb.size
      go_wp2_with (at_builtin; refine wpList_append_own _ rfl _ _ 37 rfl w.heap.size 5 i0 _ 1 1 Tryd.underlying37 hi hz0 hz1 hz2 rfl (by decide) _ _ _ rfl (HO.out.alloc _) ⟨wr.heap.size, 0, none⟩ 1 1 [.int .u8 ((n : Int) / 281474976710656 % 256)] rfl rfl ?c1 ?c2 ?c3 ?c4 ?c5 ?_)
      case c1 => exact cell_new1 _ _ _
      case c2 => exact intV_one _ _
      case c3 => unfold maxLen; omega
      case c4 => omega
      case c5 => simp; omega
      intro v' w1 hown' hgrow _
      rw [le8_step6] at hown'
      have hb1 : Below w.heap.size w w1 := (hb.alloc hsz _).grown hgrow (by simp; omega) (fun j hj => (HO.out.lt j hj).1)
      have HO1 := Lib.hid hown'
      clear hown' hgrow
      go_wp2
      go_roundw
      case rel => exact ⟨7, by omega, rfl, HO1.out, hb1⟩
      case measure => simp [intOf]
    · have hsz := hb.size
      go_wp2_with (at_builtin; refine wpList_append_own _ rfl _ _ 37 rfl w.heap.size 5 i0 _ 1 1 Tryd.underlying37 hi hz0 hz1 hz2 rfl (by decide) _ _ _ rfl (HO.out.alloc _) ⟨wr.heap.size, 0, none⟩ 1 1 [.int .u8 ((n : Int) / 72057594037927936)] rfl rfl ?c1 ?c2 ?c3 ?c4 ?c5 ?_)
      case c1 => exact cell_new1 _ _ _
      case c2 => exact intV_one _ _
      case c3 => unfold maxLen; omega
      case c4 => omega
      case c5 => simp; omega
      intro v' w1 hown' hgrow _
      rw [le8_step7 n hn] at hown'
      have hb1 : Below w.heap.size w w1 := (hb.alloc hsz _).grown hgrow (by simp; omega) (fun j hj => (HO.out.lt j hj).1)
      have HO1 := Lib.hid hown'
      clear hown' hgrow
      go_wp2
      go_roundw
      case rel => exact ⟨8, by omega, rfl, HO1.out, hb1⟩
      case measure => simp [intOf]
    · obtain ⟨g, cap, hv, hcs⟩ := owns_cellsD HO.out (by decide)
      have hcv := run_convert_bytes_back (P := Tryd.prog) wr 37 9 5 ⟨g, 0, none⟩ cap (rl.le8 n) Tryd.underlying37 Tryd.underlying5 Tryd.underlying9 (fun j hj => hcs j _ (by unfold le8V; rw [List.take_of_length_le (by rw [rl.le8_len]; omega), List.getElem?_map, List.getElem?_eq_getElem hj]; rfl))
      rw [rl.le8_len] at hcv
      subst hv
      have HCV := hcv
      clear hcs
      go_wp2
      go_ret
      exact ⟨rfl, hb⟩

set_option maxHeartbeats 1000000 in
theorem little1_any (n : Nat) (w : World) (hn : n < 256) :
    Calls Tryd.prog 58 #[.int .i64 (n : Int), .int .i64 1] w fun e w' => e = .returned (.string (crcm.mk [UInt8.ofNat n])) ∧ Below w.heap.size w w' := by
  obtain ⟨i0, hi, hz0, hz1, hz2⟩ := info_parts info_u8
  go_enter Tryd.func58, Tryd.ntmps58
  go_wp2
  refine wp_loop_rounds 2 ?_
  rw [rounds_succ]
  go_wp2_with (at_builtin; refine wpList_append_own _ rfl _ _ 37 rfl w.heap.size 5 i0 _ 1 1 Tryd.underlying37 hi hz0 hz1 hz2 rfl (by decide) _ _ _ rfl ((World.ownsRow_nil w w.heap.size 5 1).alloc _) ⟨w.heap.size, 0, none⟩ 1 1 [.int .u8 (n : Int)] rfl rfl ?c1 ?c2 ?c3 ?c4 ?c5 ?_)
  case c1 => exact cell_new1 _ _ _
  case c2 => exact intV_one _ _
  case c3 => unfold maxLen; omega
  case c4 => omega
  case c5 => simp
  intro v' w1 hown' hgrow _
  have hb1 : Below w.heap.size w w1 := (below_alloc w _).grown hgrow (by simp) (fun j hj => by cases hj)
  obtain ⟨g, cap, hv, hcs⟩ := owns_cellsD hown' (by decide)
  subst hv
  have hcv := run_convert_bytes_back (P := Tryd.prog) w1 37 9 5 ⟨g, 0, none⟩ cap [UInt8.ofNat n] Tryd.underlying37 Tryd.underlying5 Tryd.underlying9 (fun j hj => hcs j _ (by
    obtain rfl : j = 0 := by simp at hj; omega
    have := byteV_of n n rfl
    rw [Int.emod_eq_of_lt (by omega) (by omega)] at this
    unfold byteV at this
    rw [← this]
    rfl))
  rw [show [UInt8.ofNat n].length = 1 from rfl] at hcv
  clear hcs hown' hgrow
  go_wp2
  rw [rounds_succ]
  go_wp2
  go_ret
  exact ⟨rfl, hb1⟩
end Go.Proofs.YtdnoeahhidmkbaaDoor.Sv
