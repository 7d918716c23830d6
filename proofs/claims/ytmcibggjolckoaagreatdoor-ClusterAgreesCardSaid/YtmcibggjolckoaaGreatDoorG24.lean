/- KsShown, KsStrs, KsNum, KsNum2, KsTexts: one behind the other. -/
import Derived.Test.YtmcibggjolckoaaGreatDoorG23
import Derived.WalkKit
import Derived.WalkSpells
import Derived.ProofKit
import Derived.SliceStrings
import Derived.Laws.IdiomStrings
import Derived.Lib.ConvBytes
import Derived.OwnWalk
import Derived.LoopTactic
import Derived.Laws.BitsAllLaws
import Derived.WalkLawsBesides
import Derived.Deep.RegionHeld3
import Derived.Deep.RegionLaw
namespace Go.Proofs.YtmcibggjolckoaaGreatDoor
open Go Go.RowKit
set_option maxRecDepth 100000

theorem match_shown : rl.match_ [(1, []), (1, []), (1, [])] 1 1 [(2, [120])] = ([(1, []), (2, [120])], 2, 0) := by decide
theorem ents_lit (w : World) (ls : List rl.Ent) (cs : Array Value) (t : TypeId) (hc : cs.toList = entCells ls) (n : Nat) (hn : ls.length = n) (hm : n ≤ maxLen) : Ents (w.alloc (.cells cs t)) (.slice (some ⟨w.heap.size, 0, none⟩) n n) ls := by
  subst hn
  refine ⟨_, ls.length, rfl, Nat.le_refl _, hm, fun _ => ⟨w.heap.size, 0, rfl, fun k hk => ?_⟩⟩
  obtain ⟨h0, h1⟩ := entCells_get ls k hk
  have h := heap_alloc_new w (.cells cs t)
  rw [cell_of_row _ _ _ _ _ _ h, cell_of_row _ _ _ _ _ _ h]
  rw [← hc] at h0 h1
  rw [Nat.zero_add]
  exact ⟨by simpa using h0, by simpa using h1⟩
theorem Ents.form {w : World} {u : Value} {ls : List rl.Ent} (h : Ents w u ls) : ∃ A c, u = .slice A ls.length c := by
  obtain ⟨A, c, e, _⟩ := h
  exact ⟨A, c, e⟩
theorem below_alloc (w : World) (o : Obj) : Below w.heap.size w (w.alloc o) := (Below.refl _ _).alloc (Nat.le_refl _) _
end Go.Proofs.YtmcibggjolckoaaGreatDoor
namespace Go.Proofs.YtmcibggjolckoaaGreatDoor
open Go Go.RowKit Go.ChangeShapes
set_option maxRecDepth 100000

end Go.Proofs.YtmcibggjolckoaaGreatDoor
namespace Go.Proofs.YtmcibggjolckoaaGreatDoor
open Go Go.RowKit
set_option maxRecDepth 100000

namespace rl
/-- eight bytes of a number, the lowest first -/
def le8 (n : Nat) : List UInt8 := [UInt8.ofNat n, UInt8.ofNat (n / 256), UInt8.ofNat (n / 65536), UInt8.ofNat (n / 16777216), UInt8.ofNat (n / 4294967296), UInt8.ofNat (n / 1099511627776), UInt8.ofNat (n / 281474976710656), UInt8.ofNat (n / 72057594037927936)]
theorem le8_len (n : Nat) : (le8 n).length = 8 := rfl
/-- and the number again -/
def num (l : List UInt8) : Nat := l.foldr (fun b n => b.toNat + 256 * n) 0
theorem num_le8 (n : Nat) (h : n < 18446744073709551616) : num (le8 n) = n := by
  unfold num le8
  simp only [List.foldr_cons, List.foldr_nil, UInt8.toNat_ofNat']
  omega
theorem num8 (a b c d e f g h : UInt8) : num [a, b, c, d, e, f, g, h] = a.toNat + 256 * b.toNat + 65536 * c.toNat + 16777216 * d.toNat + 4294967296 * e.toNat + 1099511627776 * f.toNat + 281474976710656 * g.toNat + 72057594037927936 * h.toNat := by
  unfold num
  simp only [List.foldr_cons, List.foldr_nil]
  omega
theorem eight (l : List UInt8) (h : l.length = 8) : ∃ a b c d e f g h, l = [a, b, c, d, e, f, g, h] := by
  match l, h with
  | [a, b, c, d, e, f, g, h], _ => exact ⟨a, b, c, d, e, f, g, h, rfl⟩
theorem num_lt (l : List UInt8) (h : l.length = 8) : num l < 18446744073709551616 := by
  obtain ⟨a, b, c, d, e, f, g, i, rfl⟩ := eight l h
  clear h
  rw [num8]
  have := a.toNat_lt
  have := b.toNat_lt
  have := c.toNat_lt
  have := d.toNat_lt
  have := e.toNat_lt
  have := f.toNat_lt
  have := g.toNat_lt
  have := i.toNat_lt
  omega
end rl
def le8V (n k : Nat) : List Value := ((rl.le8 n).take k).map fun b => Value.int .u8 (b.toNat : Int)
def byteV (b : UInt8) : Value := .int .u8 (b.toNat : Int)
theorem info_u8 : (Tryz.prog.info? 5).map (fun i => (i.zero, i.size, i.bytes)) = some (some (.int .u8 0), 1, 1) := by kernel_rfl
theorem byteV_of (m : Nat) (x : Int) (h : (m : Int) = x) : byteV (UInt8.ofNat m) = .int .u8 (x % 256) := by
  unfold byteV
  rw [UInt8.toNat_ofNat', ← h]
  rfl
theorem intV_one (k : IntKind) (x : Int) : ∀ u ∈ [Value.int k x], u.oneCell' = true := by intro u hu; simp at hu; subst hu; rfl
theorem owns_cellsD {w : World} {base : Nat} {e : TypeId} {n : Nat} {v : Value} {xs : List Value} (h : w.ownsRow base e 1 v n xs) (hn : 0 < n) : ∃ g cap, v = .slice (some ⟨g, 0, none⟩) n cap ∧ ∀ j u, xs[j]? = some u → w.cell? ((⟨g, 0, none⟩ : Addr).add j) = some u := by
  have h' := h
  rcases h.2 with ⟨_, h0⟩ | ⟨g, cap, cur, rfl, _⟩
  · omega
  · exact ⟨g, cap, rfl, h'.cells (g := g) rfl⟩

theorem le8_step0 (n : Nat) : le8V n 0 ++ [.int .u8 ((n : Int) % 256)] = le8V n 1 := by
  rw [← byteV_of (n) ((n : Int)) (by omega)]
  rfl
theorem le8_step1 (n : Nat) : le8V n 1 ++ [.int .u8 ((n : Int) / 256 % 256)] = le8V n 2 := by
  rw [← byteV_of (n / 256) ((n : Int) / 256) (by omega)]
  rfl
theorem le8_step2 (n : Nat) : le8V n 2 ++ [.int .u8 ((n : Int) / 65536 % 256)] = le8V n 3 := by
  rw [← byteV_of (n / 65536) ((n : Int) / 65536) (by omega)]
  rfl
theorem le8_step3 (n : Nat) : le8V n 3 ++ [.int .u8 ((n : Int) / 16777216 % 256)] = le8V n 4 := by
  rw [← byteV_of (n / 16777216) ((n : Int) / 16777216) (by omega)]
  rfl
theorem le8_step4 (n : Nat) : le8V n 4 ++ [.int .u8 ((n : Int) / 4294967296 % 256)] = le8V n 5 := by
  rw [← byteV_of (n / 4294967296) ((n : Int) / 4294967296) (by omega)]
  rfl
theorem le8_step5 (n : Nat) : le8V n 5 ++ [.int .u8 ((n : Int) / 1099511627776 % 256)] = le8V n 6 := by
  rw [← byteV_of (n / 1099511627776) ((n : Int) / 1099511627776) (by omega)]
  rfl
theorem le8_step6 (n : Nat) : le8V n 6 ++ [.int .u8 ((n : Int) / 281474976710656 % 256)] = le8V n 7 := by
  rw [← byteV_of (n / 281474976710656) ((n : Int) / 281474976710656) (by omega)]
  rfl
theorem le8_step7 (n : Nat) (h : n < 18446744073709551616) : le8V n 7 ++ [.int .u8 ((n : Int) / 72057594037927936)] = le8V n 8 := by
  have : (.int .u8 ((n : Int) / 72057594037927936) : Value) = byteV (UInt8.ofNat (n / 72057594037927936)) := by
    rw [byteV_of (n / 72057594037927936) ((n : Int) / 72057594037927936) (by omega), Int.emod_eq_of_lt (by omega) (by omega)]
  rw [this]
  rfl
set_option maxHeartbeats 4000000 in
theorem little_any (n : Nat) (w : World) (hn : n < 18446744073709551616) :
    Calls Tryz.prog 86 #[.int .u64 (n : Int), .int .i64 8] w fun e w' => e = .returned (.string (crcm.mk (rl.le8 n))) ∧ Below w.heap.size w w' := by
  obtain ⟨i0, hi, hz0, hz1, hz2⟩ := info_parts info_u8
  go_enter Tryz.func86, Tryz.ntmps86
  go_wp2
  go_loopw [5, 8] (fun v i wr => ∃ k : Nat, k ≤ 8 ∧ i = .int .i64 k ∧ wr.ownsRow w.heap.size 5 1 v k (le8V n k) ∧ Below w.heap.size w wr) (fun _ i _ => 8 - (intOf i).toNat)
  case atStart => exact ⟨0, by omega, rfl, World.ownsRow_nil _ _ _ _, Below.refl _ _⟩
  case round =>
    obtain ⟨k, hk, rfl, hown, hb⟩ := hrel
    have hc : k = 0 ∨ k = 1 ∨ k = 2 ∨ k = 3 ∨ k = 4 ∨ k = 5 ∨ k = 6 ∨ k = 7 ∨ k = 8 := by omega
    have HO := Lib.hid hown
    clear hown
    obtain ⟨v, hv⟩ : ∃ v : Value, v = v := ⟨.bool true, rfl⟩
    clear v hv
    rcases hc with rfl | rfl | rfl | rfl | rfl | rfl | rfl | rfl | rfl
    · have hsz := hb.size
      go_wp2_with (at_builtin; refine wpList_append_own _ rfl _ _ 146 rfl w.heap.size 5 i0 _ 1 1 Tryz.underlying146 hi hz0 hz1 hz2 rfl (by decide) _ _ _ rfl (HO.out.alloc _) ⟨wr.heap.size, 0, none⟩ 1 1 [.int .u8 ((n : Int) % 256)] rfl rfl ?c1 ?c2 ?c3 ?c4 ?c5 ?_)
      case c1 => exact cell_new1 _ _ _
      case c2 => exact intV_one _ _
      case c3 => unfold maxLen; omega
      case c4 => omega
      case c5 => simp; omega
      intro v' w1 hown' hgrow _
      rw [le8_step0] at hown'
      have hb1 : Below w.heap.size w w1 := (hb.alloc hsz _).grown hgrow (by simp; omega) (fun j hj => (HO.out.lt j hj).1)
      have HO1 := Lib.hid hown'
      clear hown' hgrow
      go_wp2
      go_roundw
      case rel => exact ⟨1, by omega, rfl, HO1.out, hb1⟩
      case measure => simp [intOf]
    · have hsz := hb.size
      go_wp2_with (at_builtin; refine wpList_append_own _ rfl _ _ 146 rfl w.heap.size 5 i0 _ 1 1 Tryz.underlying146 hi hz0 hz1 hz2 rfl (by decide) _ _ _ rfl (HO.out.alloc _) ⟨wr.heap.size, 0, none⟩ 1 1 [.int .u8 ((n : Int) / 256 % 256)] rfl rfl ?c1 ?c2 ?c3 ?c4 ?c5 ?_)
      case c1 => exact cell_new1 _ _ _
      case c2 => exact intV_one _ _
      case c3 => unfold maxLen; omega
      case c4 => omega
      case c5 => simp; omega
      intro v' w1 hown' hgrow _
      rw [le8_step1] at hown'
      have hb1 : Below w.heap.size w w1 := (hb.alloc hsz _).grown hgrow (by simp; omega) (fun j hj => (HO.out.lt j hj).1)
      have HO1 := Lib.hid hown'
      clear hown' hgrow
      go_wp2
      go_roundw
      case rel => exact ⟨2, by omega, rfl, HO1.out, hb1⟩
      case measure => simp [intOf]
    · have hsz := hb.size
      go_wp2_with (at_builtin; refine wpList_append_own _ rfl _ _ 146 rfl w.heap.size 5 i0 _ 1 1 Tryz.underlying146 hi hz0 hz1 hz2 rfl (by decide) _ _ _ rfl (HO.out.alloc _) ⟨wr.heap.size, 0, none⟩ 1 1 [.int .u8 ((n : Int) / 65536 % 256)] rfl rfl ?c1 ?c2 ?c3 ?c4 ?c5 ?_)
      case c1 => exact cell_new1 _ _ _
      case c2 => exact intV_one _ _
      case c3 => unfold maxLen; omega
      case c4 => omega
      case c5 => simp; omega
      intro v' w1 hown' hgrow _
      rw [le8_step2] at hown'
      have hb1 : Below w.heap.size w w1 := (hb.alloc hsz _).grown hgrow (by simp; omega) (fun j hj => (HO.out.lt j hj).1)
      have HO1 := Lib.hid hown'
      clear hown' hgrow
      go_wp2
      go_roundw
      case rel => exact ⟨3, by omega, rfl, HO1.out, hb1⟩
      case measure => simp [intOf]
    · have hsz := hb.size
      go_wp2_with (at_builtin; refine wpList_append_own _ rfl _ _ 146 rfl w.heap.size 5 i0 _ 1 1 Tryz.underlying146 hi hz0 hz1 hz2 rfl (by decide) _ _ _ rfl (HO.out.alloc _) ⟨wr.heap.size, 0, none⟩ 1 1 [.int .u8 ((n : Int) / 16777216 % 256)] rfl rfl ?c1 ?c2 ?c3 ?c4 ?c5 ?_)
      case c1 => exact cell_new1 _ _ _
      case c2 => exact intV_one _ _
      case c3 => unfold maxLen; omega
      case c4 => omega
      case c5 => simp; omega
      intro v' w1 hown' hgrow _
      rw [le8_step3] at hown'
      have hb1 : Below w.heap.size w w1 := (hb.alloc hsz _).grown hgrow (by simp; omega) (fun j hj => (HO.out.lt j hj).1)
      have HO1 := Lib.hid hown'
      clear hown' hgrow
      go_wp2
      go_roundw
      case rel => exact ⟨4, by omega, rfl, HO1.out, hb1⟩
      case measure => simp [intOf]
    · have hsz := hb.size
      go_wp2_with (at_builtin; refine wpList_append_own _ rfl _ _ 146 rfl w.heap.size 5 i0 _ 1 1 Tryz.underlying146 hi hz0 hz1 hz2 rfl (by decide) _ _ _ rfl (HO.out.alloc _) ⟨wr.heap.size, 0, none⟩ 1 1 [.int .u8 ((n : Int) / 4294967296 % 256)] rfl rfl ?c1 ?c2 ?c3 ?c4 ?c5 ?_)
      case c1 => exact cell_new1 _ _ _
      case c2 => exact intV_one _ _
      case c3 => unfold maxLen; omega
      case c4 => omega
      case c5 => simp; omega
      intro v' w1 hown' hgrow _
      rw [le8_step4] at hown'
      have hb1 : Below w.heap.size w w1 := (hb.alloc hsz _).grown hgrow (by simp; omega) (fun j hj => (HO.out.lt j hj).1)
      have HO1 := Lib.hid hown'
      clear hown' hgrow
      go_wp2
      go_roundw
      case rel => exact ⟨5, by omega, rfl, HO1.out, hb1⟩
      case measure => simp [intOf]
    · have hsz := hb.size
      go_wp2_with (at_builtin; refine wpList_append_own _ rfl _ _ 146 rfl w.heap.size 5 i0 _ 1 1 Tryz.underlying146 hi hz0 hz1 hz2 rfl (by decide) _ _ _ rfl (HO.out.alloc _) ⟨wr.heap.size, 0, none⟩ 1 1 [.int .u8 ((n : Int) / 1099511627776 % 256)] rfl rfl ?c1 ?c2 ?c3 ?c4 ?c5 ?_)
      case c1 => exact cell_new1 _ _ _
      case c2 => exact intV_one _ _
      case c3 => unfold maxLen; omega
      case c4 => omega
      case c5 => simp; omega
      intro v' w1 hown' hgrow _
      rw [le8_step5] at hown'
      have hb1 : Below w.heap.size w w1 := (hb.alloc hsz _).grown hgrow (by simp; omega) (fun j hj => (HO.out.lt j hj).1)
      have HO1 := Lib.hid hown'
      clear hown' hgrow
      go_wp2
      go_roundw
      case rel => exact ⟨6, by omega, rfl, HO1.out, hb1⟩
      case measure => simp [intOf]
    · have hsz := hb.size
      go_wp2_with (at_builtin; refine wpList_append_own _ rfl _ _ 146 rfl w.heap.size 5 i0 _ 1 1 Tryz.underlying146 hi hz0 hz1 hz2 rfl (by decide) _ _ _ rfl (HO.out.alloc _) ⟨wr.heap.size, 0, none⟩ 1 1 [.int .u8 ((n : Int) / 281474976710656 % 256)] rfl rfl ?c1 ?c2 ?c3 ?c4 ?c5 ?_)
      case c1 => exact cell_new1 _ _ _
      case c2 => exact intV_one _ _
      case c3 => unfold maxLen; omega
      case c4 => omega
      case c5 => simp; omega
      intro v' w1 hown' hgrow _
      rw [le8_step6] at hown'
      have hb1 : Below w.heap.size w w1 := (hb.alloc hsz _).grown hgrow (by simp; omega) (fun j hj => (HO.out.lt j hj).1)
      have HO1 := Lib.hid hown'
      clear hown' hgrow
      go_wp2
      go_roundw
      case rel => exact ⟨7, by omega, rfl, HO1.out, hb1⟩
      case measure => simp [intOf]
    · have hsz := hb.size
      go_wp2_with (at_builtin; refine wpList_append_own _ rfl _ _ 146 rfl w.heap.size 5 i0 _ 1 1 Tryz.underlying146 hi hz0 hz1 hz2 rfl (by decide) _ _ _ rfl (HO.out.alloc _) ⟨wr.heap.size, 0, none⟩ 1 1 [.int .u8 ((n : Int) / 72057594037927936)] rfl rfl ?c1 ?c2 ?c3 ?c4 ?c5 ?_)
      case c1 => exact cell_new1 _ _ _
      case c2 => exact intV_one _ _
      case c3 => unfold maxLen; omega
      case c4 => omega
      case c5 => simp; omega
      intro v' w1 hown' hgrow _
      rw [le8_step7 n hn] at hown'
      have hb1 : Below w.heap.size w w1 := (hb.alloc hsz _).grown hgrow (by simp; omega) (fun j hj => (HO.out.lt j hj).1)
      have HO1 := Lib.hid hown'
      clear hown' hgrow
      go_wp2
      go_roundw
      case rel => exact ⟨8, by omega, rfl, HO1.out, hb1⟩
      case measure => simp [intOf]
    · obtain ⟨g, cap, hv, hcs⟩ := owns_cellsD HO.out (by decide)
      have hcv := run_convert_bytes_back (P := Tryz.prog) wr 146 9 5 ⟨g, 0, none⟩ cap (rl.le8 n) Tryz.underlying146 Tryz.underlying5 Tryz.underlying9 (fun j hj => hcs j _ (by unfold le8V; rw [List.take_of_length_le (by rw [rl.le8_len]; omega), List.getElem?_map, List.getElem?_eq_getElem hj]; rfl))
      rw [rl.le8_len] at hcv
      subst hv
      have HCV := hcv
      clear hcs
      go_wp2
      go_ret
      exact ⟨rfl, hb⟩

set_option maxHeartbeats 1000000 in
theorem little1_any (n : Nat) (w : World) (hn : n < 256) :
    Calls Tryz.prog 87 #[.int .i64 (n : Int), .int .i64 1] w fun e w' => e = .returned (.string (crcm.mk [UInt8.ofNat n])) ∧ Below w.heap.size w w' := by
  obtain ⟨i0, hi, hz0, hz1, hz2⟩ := info_parts info_u8
  go_enter Tryz.func87, Tryz.ntmps87
  go_wp2
  refine wp_loop_rounds 2 ?_
  rw [rounds_succ]
  go_wp2_with (at_builtin; refine wpList_append_own _ rfl _ _ 146 rfl w.heap.size 5 i0 _ 1 1 Tryz.underlying146 hi hz0 hz1 hz2 rfl (by decide) _ _ _ rfl ((World.ownsRow_nil w w.heap.size 5 1).alloc _) ⟨w.heap.size, 0, none⟩ 1 1 [.int .u8 (n : Int)] rfl rfl ?c1 ?c2 ?c3 ?c4 ?c5 ?_)
  case c1 => exact cell_new1 _ _ _
  case c2 => exact intV_one _ _
  case c3 => unfold maxLen; omega
  case c4 => omega
  case c5 => simp
  intro v' w1 hown' hgrow _
  have hb1 : Below w.heap.size w w1 := (below_alloc w _).grown hgrow (by simp) (fun j hj => by cases hj)
  obtain ⟨g, cap, hv, hcs⟩ := owns_cellsD hown' (by decide)
  subst hv
  have hcv := run_convert_bytes_back (P := Tryz.prog) w1 146 9 5 ⟨g, 0, none⟩ cap [UInt8.ofNat n] Tryz.underlying146 Tryz.underlying5 Tryz.underlying9 (fun j hj => hcs j _ (by
    obtain rfl : j = 0 := by simp at hj; omega
    have := byteV_of n n rfl
    rw [Int.emod_eq_of_lt (by omega) (by omega)] at this
    unfold byteV at this
    rw [← this]
    rfl))
  rw [show [UInt8.ofNat n].length = 1 from rfl] at hcv
  clear hcs hown' hgrow
  go_wp2
  rw [rounds_succ]
  go_wp2
  go_ret
  exact ⟨rfl, hb1⟩
end Go.Proofs.YtmcibggjolckoaaGreatDoor
namespace Go.Proofs.YtmcibggjolckoaaGreatDoor
open Go Go.RowKit
set_option maxRecDepth 100000

theorem u64_or_join (i a b : Nat) (ha : a < 2 ^ i) (hb : b % 2 ^ i = 0) (ha4 : a < 18446744073709551616) (hb4 : b < 18446744073709551616) : bits .or .u64 (a : Int) (b : Int) = ((a + b : Nat) : Int) := by
  rw [u64_or_nat a b ha4 hb4, Nat.or_comm, nat_join i b a hb ha, Nat.add_comm]
theorem orn1 (S : Nat) (b : UInt8) (h : S < 256) : bits .or .u64 (S : Int) ((b.toNat : Int) * 256) = ((S + 256 * b.toNat : Nat) : Int) ∧ S + 256 * b.toNat < 65536 := by
  have := b.toNat_lt
  refine ⟨?_, by omega⟩
  rw [show (b.toNat : Int) * 256 = ((256 * b.toNat : Nat) : Int) from by omega]
  exact u64_or_join 8 _ _ (by omega) (by omega) (by omega) (by omega)
theorem orn2 (S : Nat) (b : UInt8) (h : S < 65536) : bits .or .u64 (S : Int) ((b.toNat : Int) * 65536) = ((S + 65536 * b.toNat : Nat) : Int) ∧ S + 65536 * b.toNat < 16777216 := by
  have := b.toNat_lt
  refine ⟨?_, by omega⟩
  rw [show (b.toNat : Int) * 65536 = ((65536 * b.toNat : Nat) : Int) from by omega]
  exact u64_or_join 16 _ _ (by omega) (by omega) (by omega) (by omega)
theorem orn3 (S : Nat) (b : UInt8) (h : S < 16777216) : bits .or .u64 (S : Int) ((b.toNat : Int) * 16777216) = ((S + 16777216 * b.toNat : Nat) : Int) ∧ S + 16777216 * b.toNat < 4294967296 := by
  have := b.toNat_lt
  refine ⟨?_, by omega⟩
  rw [show (b.toNat : Int) * 16777216 = ((16777216 * b.toNat : Nat) : Int) from by omega]
  exact u64_or_join 24 _ _ (by omega) (by omega) (by omega) (by omega)
theorem orn4 (S : Nat) (b : UInt8) (h : S < 4294967296) : bits .or .u64 (S : Int) ((b.toNat : Int) * 4294967296) = ((S + 4294967296 * b.toNat : Nat) : Int) ∧ S + 4294967296 * b.toNat < 1099511627776 := by
  have := b.toNat_lt
  refine ⟨?_, by omega⟩
  rw [show (b.toNat : Int) * 4294967296 = ((4294967296 * b.toNat : Nat) : Int) from by omega]
  exact u64_or_join 32 _ _ (by omega) (by omega) (by omega) (by omega)
theorem orn5 (S : Nat) (b : UInt8) (h : S < 1099511627776) : bits .or .u64 (S : Int) ((b.toNat : Int) * 1099511627776) = ((S + 1099511627776 * b.toNat : Nat) : Int) ∧ S + 1099511627776 * b.toNat < 281474976710656 := by
  have := b.toNat_lt
  refine ⟨?_, by omega⟩
  rw [show (b.toNat : Int) * 1099511627776 = ((1099511627776 * b.toNat : Nat) : Int) from by omega]
  exact u64_or_join 40 _ _ (by omega) (by omega) (by omega) (by omega)
theorem orn6 (S : Nat) (b : UInt8) (h : S < 281474976710656) : bits .or .u64 (S : Int) ((b.toNat : Int) * 281474976710656) = ((S + 281474976710656 * b.toNat : Nat) : Int) ∧ S + 281474976710656 * b.toNat < 72057594037927936 := by
  have := b.toNat_lt
  refine ⟨?_, by omega⟩
  rw [show (b.toNat : Int) * 281474976710656 = ((281474976710656 * b.toNat : Nat) : Int) from by omega]
  exact u64_or_join 48 _ _ (by omega) (by omega) (by omega) (by omega)
theorem orn7 (S : Nat) (b : UInt8) (h : S < 72057594037927936) : bits .or .u64 (S : Int) ((b.toNat : Int) * 72057594037927936) = ((S + 72057594037927936 * b.toNat : Nat) : Int) ∧ S + 72057594037927936 * b.toNat < 18446744073709551616 := by
  have := b.toNat_lt
  refine ⟨?_, by omega⟩
  rw [show (b.toNat : Int) * 72057594037927936 = ((72057594037927936 * b.toNat : Nat) : Int) from by omega]
  exact u64_or_join 56 _ _ (by omega) (by omega) (by omega) (by omega)
set_option maxHeartbeats 4000000 in
theorem number_any (a b c d e f g h : UInt8) (w : World) :
    Calls Tryz.prog 76 #[.string (crcm.mk [a, b, c, d, e, f, g, h])] w fun e' w' => e' = .returned (.int .u64 (rl.num [a, b, c, d, e, f, g, h] : Nat)) ∧ Below w.heap.size w w' := by
  have hsz : (crcm.mk [a, b, c, d, e, f, g, h]).size = 8 := rfl
  have hconv := Lib.run_convert_string_bytes (P := Tryz.prog) w 9 146 5 (crcm.mk [a, b, c, d, e, f, g, h]) Tryz.underlying9 Tryz.underlying146 Tryz.underlying5
  rw [hsz] at hconv
  have hcell := fun k hk => Lib.bytesWorld_cell w 5 (crcm.mk [a, b, c, d, e, f, g, h]) k hk
  have c0 := hcell 0 (by rw [hsz]; decide)
  have c1 := hcell 1 (by rw [hsz]; decide)
  have c2 := hcell 2 (by rw [hsz]; decide)
  have c3 := hcell 3 (by rw [hsz]; decide)
  have c4 := hcell 4 (by rw [hsz]; decide)
  have c5 := hcell 5 (by rw [hsz]; decide)
  have c6 := hcell 6 (by rw [hsz]; decide)
  have c7 := hcell 7 (by rw [hsz]; decide)
  have hb := below_bytesWorld w 5 (crcm.mk [a, b, c, d, e, f, g, h])
  obtain ⟨w1, hw1⟩ : ∃ w1, Lib.bytesWorld w 5 (crcm.mk [a, b, c, d, e, f, g, h]) = w1 := ⟨_, rfl⟩
  rw [hw1] at hconv hb c0 c1 c2 c3 c4 c5 c6 c7
  clear hcell hw1
  rw [show (crcm.mk [a, b, c, d, e, f, g, h]).data.toList.getD 0 0 = a from rfl] at c0
  rw [show (crcm.mk [a, b, c, d, e, f, g, h]).data.toList.getD 1 0 = b from rfl] at c1
  rw [show (crcm.mk [a, b, c, d, e, f, g, h]).data.toList.getD 2 0 = c from rfl] at c2
  rw [show (crcm.mk [a, b, c, d, e, f, g, h]).data.toList.getD 3 0 = d from rfl] at c3
  rw [show (crcm.mk [a, b, c, d, e, f, g, h]).data.toList.getD 4 0 = e from rfl] at c4
  rw [show (crcm.mk [a, b, c, d, e, f, g, h]).data.toList.getD 5 0 = f from rfl] at c5
  rw [show (crcm.mk [a, b, c, d, e, f, g, h]).data.toList.getD 6 0 = g from rfl] at c6
  rw [show (crcm.mk [a, b, c, d, e, f, g, h]).data.toList.getD 7 0 = h from rfl] at c7
  have la : a.toNat < 256 := a.toNat_lt
  have lb : b.toNat < 256 := b.toNat_lt
  have lc : c.toNat < 256 := c.toNat_lt
  have ld : d.toNat < 256 := d.toNat_lt
  have le : e.toNat < 256 := e.toNat_lt
  have lf : f.toNat < 256 := f.toNat_lt
  have lg : g.toNat < 256 := g.toNat_lt
  have lh : h.toNat < 256 := h.toNat_lt
  have hfin := rl.num8 a b c d e f g h
  have o0 : bits .or .u64 0 (a.toNat : Int) = (a.toNat : Int) := by have := u64_or_join 0 0 a.toNat (by omega) (by omega) (by omega) (by omega); simpa using this
  have o1 := orn1 _ b la
  obtain ⟨S1, hS1⟩ : ∃ S, a.toNat + 256 * b.toNat = S := ⟨_, rfl⟩
  rw [hS1] at o1 hfin
  obtain ⟨o1, p1⟩ := o1
  clear hS1
  have o2 := orn2 _ c p1
  obtain ⟨S2, hS2⟩ : ∃ S, S1 + 65536 * c.toNat = S := ⟨_, rfl⟩
  rw [hS2] at o2 hfin
  obtain ⟨o2, p2⟩ := o2
  clear hS2
  have o3 := orn3 _ d p2
  obtain ⟨S3, hS3⟩ : ∃ S, S2 + 16777216 * d.toNat = S := ⟨_, rfl⟩
  rw [hS3] at o3 hfin
  obtain ⟨o3, p3⟩ := o3
  clear hS3
  have o4 := orn4 _ e p3
  obtain ⟨S4, hS4⟩ : ∃ S, S3 + 4294967296 * e.toNat = S := ⟨_, rfl⟩
  rw [hS4] at o4 hfin
  obtain ⟨o4, p4⟩ := o4
  clear hS4
  have o5 := orn5 _ f p4
  obtain ⟨S5, hS5⟩ : ∃ S, S4 + 1099511627776 * f.toNat = S := ⟨_, rfl⟩
  rw [hS5] at o5 hfin
  obtain ⟨o5, p5⟩ := o5
  clear hS5
  have o6 := orn6 _ g p5
  obtain ⟨S6, hS6⟩ : ∃ S, S5 + 281474976710656 * g.toNat = S := ⟨_, rfl⟩
  rw [hS6] at o6 hfin
  obtain ⟨o6, p6⟩ := o6
  clear hS6
  have o7 := orn7 _ h p6
  obtain ⟨S7, hS7⟩ : ∃ S, S6 + 72057594037927936 * h.toNat = S := ⟨_, rfl⟩
  rw [hS7] at o7 hfin
  obtain ⟨o7, p7⟩ := o7
  clear hS7
  have HF := Lib.hid hfin
  clear hfin
  go_enter Tryz.func76, Tryz.ntmps76
  go_wp2
  refine wp_loop_rounds 9 ?_
  rw [rounds_succ]
  go_wp2
  rw [rounds_succ]
  go_wp2
  rw [rounds_succ]
  go_wp2
  rw [rounds_succ]
  go_wp2
  rw [rounds_succ]
  go_wp2
  rw [rounds_succ]
  go_wp2
  rw [rounds_succ]
  go_wp2
  rw [rounds_succ]
  go_wp2
  rw [rounds_succ]
  go_wp2
  go_ret
  exact ⟨ret_of (slot_u64 (by rw [HF.out])), hb⟩

end Go.Proofs.YtmcibggjolckoaaGreatDoor
namespace Go.Proofs.YtmcibggjolckoaaGreatDoor
open Go Go.RowKit
set_option maxRecDepth 100000
theorem Ents.at_ {w : World} {A : Option Addr} {n c : Nat} {ls : List rl.Ent} (h : Ents w (.slice A n c) ls) (hlt : 0 < ls.length) : ∃ b o, A = some ⟨b, o, none⟩ ∧ EntsAt w b o ls := by
  obtain ⟨A', c', e, _, _, h0⟩ := h
  obtain ⟨rfl, _, rfl⟩ : A = A' ∧ n = ls.length ∧ c = c' := by injection e with e1 e2 e3; exact ⟨e1, e2, e3⟩
  exact h0 hlt
theorem Ents.row {w : World} {A : Option Addr} {n c : Nat} {ls : List rl.Ent} (h : Ents w (.slice A n c) ls) (k : Nat) (hk : k < n) :
    ∃ b o, A = some ⟨b, o, none⟩ ∧ w.cell? ⟨b, o + k * 2, none⟩ = some (.int .u64 ((ls.getD k rl.e0).1 : Int)) ∧ w.cell? ⟨b, o + k * 2 + 1, none⟩ = some (.string (crcm.mk (ls.getD k rl.e0).2)) := by
  have hn : n = ls.length := by obtain ⟨A', c', e, _⟩ := h; injection e
  obtain ⟨b, o, rfl, hA⟩ := h.at_ (by omega)
  obtain ⟨h0, h1⟩ := hA k (by omega)
  exact ⟨b, o, rfl, h0, h1⟩

/-- a state's box -/
structure HBox (W : World) (g T : Nat) (V : Int) (v : Value) (ls : List rl.Ent) : Prop where
  c0 : W.cell? ⟨g, 0, none⟩ = some (.int .u64 (T : Int))
  c1 : W.cell? ⟨g, 1, none⟩ = some (.int .i64 V)
  c2 : W.cell? ⟨g, 2, none⟩ = some v
  e : Ents W v ls
theorem HBox.below {W W' : World} {g T : Nat} {V : Int} {v : Value} {ls : List rl.Ent} (h : HBox W g T V v ls) (hb : Below W.heap.size W W') : HBox W' g T V v ls :=
  ⟨cell_later hb h.c0, cell_later hb h.c1, cell_later hb h.c2, h.e.below hb⟩
theorem HBox.new {W : World} {T : Nat} {V : Int} {v : Value} {ls : List rl.Ent} (t : TypeId) (h : Ents W v ls) : HBox (W.alloc (.cells #[.int .u64 (T : Int), .int .i64 V, v] t)) W.heap.size T V v ls := by
  obtain ⟨b0, b1, b2⟩ := box_cells W (.int .u64 (T : Int)) (.int .i64 V) v t
  exact ⟨b0, b1, b2, h.below (below_alloc _ _)⟩

theorem below_box (w : World) (a b c : Value) (t : TypeId) : Below w.heap.size w (w.alloc (.cells #[a, b, c] t)) := below_alloc _ _


namespace rl
def enc (t : Ent) : List UInt8 := le8 t.1 ++ t.2
def head (T : Nat) (V : Int) : List UInt8 := le8 T ++ [UInt8.ofNat (V + 1).toNat]
def texts (T : Nat) (V : Int) (ls : List Ent) : List (List UInt8) := head T V :: ls.map enc
end rl
theorem texts_take (T : Nat) (V : Int) (ls : List rl.Ent) (k : Nat) (h : k < ls.length) : rl.texts T V (ls.take k) ++ [rl.enc (ls.getD k rl.e0)] = rl.texts T V (ls.take (k + 1)) := by
  unfold rl.texts
  rw [take_snoc h, List.map_append]
  rfl
/-- the states whose texts may be written -/
def Writable (T : Nat) (ls : List rl.Ent) : Prop := T < 18446744073709551616 ∧ ls.length ≤ 10000 ∧ ∀ t ∈ ls, t.1 < 18446744073709551616 ∧ t.2.length ≤ 60000

theorem texts_bad (T : Nat) (V : Int) (v : Value) (ls : List rl.Ent) (w : World) (hv : Ents w v ls) (hV : V < -1 ∨ 254 < V) :
    Calls Tryz.prog 70 #[stV T V v] w fun e w' => e = .returned (.tuple #[.slice none 0 0, .int .i64 1]) ∧ Below w.heap.size w w' := by
  obtain ⟨A, c, hu⟩ := hv.form
  subst hu
  clear hv
  obtain ⟨b0, b1, b2⟩ := box_cells w (.int .u64 (T : Int)) (.int .i64 V) (.slice A ls.length c) 46
  unfold stV
  rcases hV with h | h
  · go_enter Tryz.func70, Tryz.ntmps70
    go_wp2
    go_ret2
    exact ⟨rfl, below_alloc _ _⟩
  · have h2 : ¬ V < -1 := by omega
    go_enter Tryz.func70, Tryz.ntmps70
    go_wp2
    go_ret2
    exact ⟨rfl, below_alloc _ _⟩

set_option maxRecDepth 100000 in
set_option maxHeartbeats 4000000 in
theorem texts_good (T : Nat) (V : Int) (v : Value) (ls : List rl.Ent) (w : World) (hv : Ents w v ls) (h1 : -1 ≤ V) (h2 : V ≤ 254) (hw : Writable T ls) :
    Calls Tryz.prog 70 #[stV T V v] w fun e w' => ∃ u, e = .returned (.tuple #[u, .int .i64 0]) ∧ w'.ownsRow w.heap.size 9 1 u (ls.length + 1) ((rl.texts T V ls).map strV) ∧ Below w.heap.size w w' := by
  obtain ⟨i0, hi, hz0, hz1, hz2⟩ := info_parts info_string
  obtain ⟨A, c, hu⟩ := hv.form
  obtain ⟨n, hn⟩ : ∃ n, ls.length = n := ⟨_, rfl⟩
  rw [hn] at hu ⊢
  subst hu
  obtain ⟨hT, hl, hall⟩ := hw
  rw [hn] at hl
  have hx := HBox.new (T := T) (V := V) 46 hv
  have hb := below_box w (.int .u64 (T : Int)) (.int .i64 V) (.slice A n c) 46
  obtain ⟨b0, b1, b2⟩ := box_cells w (.int .u64 (T : Int)) (.int .i64 V) (.slice A n c) 46
  obtain ⟨q, hq⟩ : ∃ q : Nat, V + 1 = (q : Int) := ⟨(V + 1).toNat, by omega⟩
  have hq2 : q < 256 := by omega
  have hqh : rl.head T V = rl.le8 T ++ [UInt8.ofNat q] := by unfold rl.head; rw [hq]; rfl
  have hcat : crcm.mk (rl.le8 T) ++ crcm.mk [UInt8.ofNat q] = crcm.mk (rl.head T V) := by rw [hqh]; exact crcm.mk_append _ _
  have d1 : decide (V < -1) = false := by simp; omega
  have d2 : decide (254 < V) = false := by simp; omega
  have hs1 : (crcm.mk (rl.le8 T)).size = 8 := rfl
  have hs2 : (crcm.mk [UInt8.ofNat q]).size = 1 := rfl
  have Hn := Lib.hid hn
  have HX := Lib.hid hx
  have HB := Lib.hid hb
  have HT := Lib.hid hT
  have HALL := Lib.hid hall
  have HV := Lib.hid hv
  clear hqh hn hx hb hT hall hv
  unfold stV
  go_enter Tryz.func70, Tryz.ntmps70
  go_wp2
  have hx := HX.out
  have hb := HB.out
  obtain ⟨X, hXe⟩ : ∃ X, w.alloc (.cells #[.int .u64 (T : Int), .int .i64 V, .slice A n c] 46) = X := ⟨_, rfl⟩
  rw [hXe] at hx hb b0 b1 b2 ⊢
  clear hXe HX HB
  have MK : Hid (∀ w', Below X.heap.size X w' → w'.cell? ⟨w.heap.size, 0, none⟩ = some (.int .u64 (T : Int)) ∧ w'.cell? ⟨w.heap.size, 1, none⟩ = some (.int .i64 V) ∧ w'.cell? ⟨w.heap.size, 2, none⟩ = some (.slice A n c)) := Lib.hid (fun w' h => ⟨cell_later h hx.c0, cell_later h hx.c1, cell_later h hx.c2⟩)
  have hW : Below X.heap.size X X.drew := below_drewN (Below.refl _ X) 1
  have HB := Lib.hid hb
  have HX := Lib.hid hx
  have hqw : IntKind.i64.wrap (V + 1) = (q : Int) := by rw [hq]; simp [IntKind.wrap, IntKind.bits, IntKind.signed]; omega
  have Hq := Lib.hid hq
  clear hb hx b0 b1 b2 hq
  go_region_held3 (fun w' => w'.cell? ⟨w.heap.size, 0, none⟩ = some (.int .u64 (T : Int)) ∧ w'.cell? ⟨w.heap.size, 1, none⟩ = some (.int .i64 V) ∧ w'.cell? ⟨w.heap.size, 2, none⟩ = some (.slice A n c))
    (first | exact MK.out _ hW | exact MK.out _ (hW.trans ((below_alloc _ _).mono hW.size)))
    (first | (go_at_call 86; refine (little_any T _ HT.out).mono ?_; rintro e w6 ⟨rfl, hb⟩; have hW := hW.trans (hb.mono hW.size)) | (go_at_call 87; refine (little1_any q _ hq2).mono ?_; rintro e w6 ⟨rfl, hb⟩; have hW := hW.trans (hb.mono hW.size)))
  have hB6 : Below w.heap.size w w6 := HB.out.trans (hW.mono HB.out.size)
  have hown0 : (w6.alloc (.cells #[.string (crcm.mk (rl.head T V))] 9)).ownsRow w.heap.size 9 1 (.slice (some ⟨w6.heap.size, 0, none⟩) 1 1) (0 + 1) ((rl.texts T V (ls.take 0)).map strV) :=
    ⟨rfl, .inr ⟨w6.heap.size, 1, #[.string (crcm.mk (rl.head T V))], rfl, hB6.size, heap_alloc_new w6 _, Nat.le_refl _, by unfold maxLen; omega, rfl, rfl⟩⟩
  have hB7 : Below w.heap.size w (w6.alloc (.cells #[.string (crcm.mk (rl.head T V))] 9)) := hB6.alloc hB6.size _
  have c2 := (MK.out _ (hW.trans ((below_alloc w6 (.cells #[.string (crcm.mk (rl.head T V))] 9)).mono hW.size))).2.2
  have HO0 := Lib.hid hown0
  have HB7 := Lib.hid hB7
  clear hown0 hB7 hB6 hW hb hqw hcat hs1 hs2
  simp only [Exit.then]
  go_wp2
  go_loopw [4, 27] (fun v i wr => ∃ k : Nat, k ≤ n ∧ i = .int .i64 k ∧ wr.ownsRow w.heap.size 9 1 v (k + 1) ((rl.texts T V (ls.take k)).map strV) ∧ Below w.heap.size w wr) (fun _ i _ => n - (intOf i).toNat)
  case atStart => exact ⟨0, Nat.zero_le _, rfl, HO0.out, HB7.out⟩
  case round =>
    obtain ⟨k, hk, rfl, hown, hb⟩ := hrel
    have HO := Lib.hid hown
    have HBB := Lib.hid hb
    clear hown hb
    by_cases hlt : k < n
    · obtain ⟨b, o, rfl, x0, x1⟩ := (HV.out.below HBB.out).row k hlt
      have hmem := HALL.out _ (getD_mem (ls := ls) (k := k) (by rw [Hn.out]; exact hlt))
      have hnx := texts_take T V ls k (by rw [Hn.out]; exact hlt)
      obtain ⟨x, hx⟩ : ∃ x, ls.getD k rl.e0 = x := ⟨_, rfl⟩
      rw [hx] at x0 x1 hmem hnx
      obtain ⟨hm1, hm2⟩ := hmem
      have hsz : (crcm.mk x.2).size ≤ 60000 := by rw [crcm.mk_size]; exact hm2
      have hs8 : (crcm.mk (rl.le8 x.1)).size = 8 := rfl
      have hcat : crcm.mk (rl.le8 x.1) ++ crcm.mk x.2 = crcm.mk (rl.enc x) := crcm.mk_append _ _
      have hi1 : (k : Int) < (n : Int) := by omega
      have HNX := Lib.hid hnx
      have HM1 := Lib.hid hm1
      clear hx hnx hm1
      obtain ⟨g0, g1⟩ := box2_cells wr (.int .u64 (x.1 : Int)) (.string (crcm.mk x.2)) 35
      have HA := Lib.hid (below_alloc wr (.cells #[.int .u64 (x.1 : Int), .string (crcm.mk x.2)] 35))
      go_wp2
      obtain ⟨Y, hY⟩ : ∃ Y, wr.alloc (.cells #[.int .u64 (x.1 : Int), .string (crcm.mk x.2)] 35) = Y := ⟨_, rfl⟩
      have ha := HA.out
      rw [hY] at g0 g1 ha ⊢
      have hOY : Y.ownsRow w.heap.size 9 1 u4 (k + 1) ((rl.texts T V (ls.take k)).map strV) := by rw [← hY]; exact HO.out.alloc _
      have HOY := Lib.hid hOY
      have HBY := Lib.hid (HBB.out.trans (ha.mono HBB.out.size))
      clear hY HA ha hOY x0 x1
      have hW9 : Below Y.heap.size Y Y.drew := below_drewN (Below.refl _ Y) 1
      have hk1 : k + 1 ≤ 10000 := by omega
      have hno : ¬ 9223372036854775807 < 8 + (crcm.mk x.2).size := by omega
      go_region_law (first | (refine step_append_own rfl (.tmp 35) (.tmp 42) 22 rfl w.heap.size 9 i0 _ 1 16 Tryz.underlying22 hi hz0 hz1 hz2 rfl (by decide) u4 (k + 1) _ rfl ((owns_below HOY.out hW9).alloc _) ⟨w9.heap.size, 0, none⟩ 1 1 [strV (rl.enc x)] rfl rfl (cell_new1 _ _ _) (strV_one _) ?_ ?_ ?_ ?_; unfold maxLen; omega; omega; (have q1 := hW9.size; have q2 := HBY.out.size; simp; omega); intro v' w3 hown' hgrow') | (go_simp; go_at_call 86; refine (little_any x.1 _ HM1.out).mono ?_; rintro e w9 ⟨rfl, hb9⟩; have hW9 := hW9.trans (hb9.mono hW9.size); have g0' := cell_later hW9 g0; have g1' := cell_later hW9 g1))
      all_goals
        have hb9' : Below w.heap.size w w9 := HBY.out.trans (hW9.mono HBY.out.size)
        have hb3 : Below w.heap.size w w3 := (hb9'.alloc hb9'.size _).grown hgrow' (by have := hb9'.size; simp; omega) (fun j hj => (HOY.out.lt j hj).1)
        have hown3 : w3.ownsRow w.heap.size 9 1 v' (k + 1 + 1) ((rl.texts T V (ls.take (k + 1))).map strV) := by
          rw [← HNX.out, List.map_append]; exact hown'
        have HO3 := Lib.hid hown3
        have HB3 := Lib.hid hb3
        clear hown' hgrow' hown3 hb3 hb9' hb9 hW9 g0' g1' g0 g1 hcat
        simp only [Exit.inBlock, Exit.then]
        go_wp2
        go_roundw
        case rel => exact ⟨k + 1, by omega, by go_num, HO3.out, HB3.out⟩
        case measure => simp [intOf]; omega
    · obtain rfl : k = n := by omega
      have htk : ls.take k = ls := List.take_of_length_le (by rw [Hn.out]; exact Nat.le_refl _)
      rw [htk] at HO
      go_wp2
      go_ret2
      exact ⟨_, rfl, HO.out, HBB.out⟩
end Go.Proofs.YtmcibggjolckoaaGreatDoor
