/- raftlog.beside walked: an iterator over what stands beside one another in two lists. -/
import Derived.RangeFuncBox
import Derived.RangeFuncNested
import Derived.RangeFuncBound
import Derived.RangeFuncCalls
import Derived.RangeFuncLeaves
import Derived.Shelf.RegionOpen
import Derived.Stop.RegionWithIn
import Derived.WalkKit
import Derived.OwnWalkIn
import Derived.TacticsInMore
import Derived.LoopNIn
import Derived.LoopIn
import Derived.Lib.MinMax
import Derived.Maps.AppendAt
import Derived.Test.YtkoidphhlfjlhaaRfConcat
namespace Go.Proofs.Ytkoidphhlfjlhaa
open Go Go.RowKit

attribute [local go_sem] Oper.semAt_some

def entV (t : rl.Ent) : Value := .agg #[.int .u64 (t.1 : Int), .string (crcm.mk t.2)]
def encB (x : rl.Ent × rl.Ent) : Array Value := #[entV x.1, entV x.2]
/-- what a round keeps: what lay below n₀, and the boxes of the two lists -/
def KeepB (n₀ B1 B2 : Nat) (W W' : World) : Prop := Below n₀ W W' ∧ W'.heap[B1]? = W.heap[B1]? ∧ W'.heap[B2]? = W.heap[B2]?
theorem grown_of_below {a w : World} (h : Below a.heap.size a w) (row : Option Nat) : a.grownBy w row := ⟨h.os, h.tape, h.output, h.size, fun i hi _ => h.block i hi⟩
theorem AbidesFrom.mono {β : Type} {B B' : Nat} {J : β → World → Prop} (h : AbidesFrom B J) (hB : B ≤ B') : AbidesFrom B' J :=
  fun s X Y row hs hg hr => h s X Y row hs hg (fun r e => ⟨Nat.le_trans hB (hr r e).1, (hr r e).2⟩)

theorem beside_in (n : Nat) (A1 A2 : Option Addr) (n1 c1 n2 c2 : Nat) (w : World) :
    CallsIn Fence.wide n Try.prog 43 #[.slice A1 n1 c1, .slice A2 n2 c2] w fun e w' => e = .returned (.func (.func 47) #[] #[.pointer (some ⟨w.heap.size, 0, none⟩), .pointer (some ⟨w.heap.size + 1, 0, none⟩)]) ∧ w' = (w.alloc (.cells #[.slice A1 n1 c1] 23)).alloc (.cells #[.slice A2 n2 c2] 23) := by
  refine callsIn_of_wp Try.func43 rfl trivial ?_ rfl
  simp only [Try.ntmps43, List.size_toArray, List.length_cons, List.length_nil, Nat.reduceAdd, Nat.reduceSub, Array.replicate_succ, Array.replicate_zero, List.push_toArray, List.append_toArray, List.nil_append, List.cons_append]
  gi_wp2
  go_ret
  exact ⟨rfl, rfl⟩

theorem zip_take {la lb : List rl.Ent} {k : Nat} (h1 : k < la.length) (h2 : k < lb.length) : (la.zip lb).take (k + 1) = (la.zip lb).take k ++ [(la.getD k rl.e0, lb.getD k rl.e0)] := by
  have h : k < (la.zip lb).length := by rw [List.length_zip]; omega
  rw [List.take_succ_eq_append_getElem h, List.getElem_zip, List.getD_eq_getElem?_getD, List.getD_eq_getElem?_getD, List.getElem?_eq_getElem h1, List.getElem?_eq_getElem h2]
  rfl
set_option maxRecDepth 100000 in
set_option maxHeartbeats 4000000 in
theorem beside1_in (n : Nat) (hn : 1 ≤ n) (l B1 B2 n₀ : Nat) (la lb : List rl.Ent) (A1 A2 : Option Addr) (n1 c1 n2 c2 : Nat) (hl1 : la.length = n1) (hl2 : lb.length = n2) (h1 : n1 ≤ 100000) (h2 : n2 ≤ 100000) (J Jx : List (rl.Ent × rl.Ent) → World → Prop)
    (W0 W : World) (hJ : AbidesFrom W.heap.size J)
    (hY : ∀ pre x W1, J pre W1 → pre.length < (la.zip lb).length → YieldAt Fence.wide (n - 1) Try.prog l (encB x) W1 fun e W' =>
      (e = .returned (.bool true) ∧ J (pre ++ [x]) W' ∧ KeepB n₀ B1 B2 W1 W') ∨ (e = .returned (.bool false) ∧ Jx (pre ++ [x]) W'))
    (hB1 : W.heap[B1]? = some (.cells #[.slice A1 n1 c1] 23 (0, 0))) (hB2 : W.heap[B2]? = some (.cells #[.slice A2 n2 c2] 23 (0, 0)))
    (hE1 : Ents W0 (.slice A1 n1 c1) la) (hE2 : Ents W0 (.slice A2 n2 c2) lb) (hn0 : W0.heap.size = n₀) (hW0 : Below n₀ W0 W) (h0 : J [] W) :
    CallsIn Fence.wide n Try.prog 47 #[.func (.yield l) #[] #[], .pointer (some ⟨B1, 0, none⟩), .pointer (some ⟨B2, 0, none⟩)] W fun e W' => (∃ v, e = .returned v) ∧
      ((∃ ys, ys = la.zip lb ∧ J ys W') ∨ (∃ pre, pre <+: la.zip lb ∧ Jx pre W')) := by
  obtain ⟨m, hm⟩ : ∃ m, min n1 n2 = m := ⟨_, rfl⟩
  have hmi : min (n1 : Int) (n2 : Int) = (m : Int) := by omega
  have hzl : (la.zip lb).length = m := by rw [List.length_zip, hl1, hl2]; exact hm
  have b1 := cell_of_one hB1
  have b2 := cell_of_one hB2
  have Hl1 := Lib.hid hl1
  have Hl2 := Lib.hid hl2
  have Hm := Lib.hid hm
  have Hz := Lib.hid hzl
  have HE1 := Lib.hid hE1
  have HE2 := Lib.hid hE2
  have HW0 := Lib.hid hW0
  have HY := Lib.hid hY
  have HJ := Lib.hid hJ
  clear hl1 hl2 hm hzl hE1 hE2 hW0 hY hJ
  refine callsIn_of_wp Try.func47 rfl trivial ?_ rfl
  simp only [Try.ntmps47, List.size_toArray, List.length_cons, List.length_nil, Nat.reduceAdd, Nat.reduceSub, Array.replicate_succ, Array.replicate_zero, List.push_toArray, List.append_toArray, List.nil_append, List.cons_append]
  gi_wp2
  gi_loopw [10] (fun i wr => ∃ k : Nat, k ≤ m ∧ i = .int .i64 k ∧ J ((la.zip lb).take k) wr ∧ KeepB n₀ B1 B2 W wr) (fun i _ => m - (intOf i).toNat)
  case atStart => exact ⟨0, Nat.zero_le _, rfl, h0, Below.refl _ _, rfl, rfl⟩
  case round =>
    obtain ⟨k, hk, rfl, hJs, hkeep⟩ := hrel
    have r1 := cell_of_one (hkeep.2.1.trans hB1)
    have r2 := cell_of_one (hkeep.2.2.trans hB2)
    by_cases hlt : k < m
    · have hk1 : k < n1 := by have := Hm.out; omega
      have hk2 : k < n2 := by have := Hm.out; omega
      obtain ⟨A', c', e, _, _, hh1⟩ := HE1.out
      obtain ⟨rfl, rfl⟩ : A1 = A' ∧ c1 = c' := by injection e with e1 e2 e3; exact ⟨e1, e3⟩
      obtain ⟨b, o, rfl, hA⟩ := hh1 (by rw [Hl1.out]; omega)
      obtain ⟨A'', c'', e', _, _, hh2⟩ := HE2.out
      obtain ⟨rfl, rfl⟩ : A2 = A'' ∧ c2 = c'' := by injection e' with e1 e2 e3; exact ⟨e1, e3⟩
      obtain ⟨b', o', rfl, hB⟩ := hh2 (by rw [Hl2.out]; omega)
      obtain ⟨x0, x1⟩ := hA k (by rw [Hl1.out]; exact hk1)
      obtain ⟨y0, y1⟩ := hB k (by rw [Hl2.out]; exact hk2)
      have hbel : Below W0.heap.size W0 wr := by rw [hn0]; exact HW0.out.trans hkeep.1
      have x0' := cell_later hbel x0
      have x1' := cell_later hbel x1
      have y0' := cell_later hbel y0
      have y1' := cell_later hbel y1
      have hzt := zip_take (la := la) (lb := lb) (k := k) (by rw [Hl1.out]; exact hk1) (by rw [Hl2.out]; exact hk2)
      obtain ⟨x, hx⟩ : ∃ x, la.getD k rl.e0 = x := ⟨_, rfl⟩
      obtain ⟨y, hy⟩ : ∃ x, lb.getD k rl.e0 = x := ⟨_, rfl⟩
      rw [hx] at x0' x1' hzt
      rw [hy] at y0' y1' hzt
      have HZT := Lib.hid hzt
      have hlen : ((la.zip lb).take k).length < (la.zip lb).length := by rw [List.length_take, Hz.out]; omega
      have HLEN := Lib.hid hlen
      have hi1 : (k : Int) < (n1 : Int) := by omega
      have hi2 : (k : Int) < (n2 : Int) := by omega
      have hkm : (k : Int) < (m : Int) := by omega
      clear e e' hh1 hh2 hA hB x0 x1 y0 y1 hbel hx hy hzt hlen
      gi_wp2
      have hJ1 := (AbidesFrom.mono HJ.out hkeep.1.size) _ wr wr.drew none hJs (grown_of_below (below_drewN (Below.refl _ wr) 1) none) (by intro r e; cases e)
      obtain ⟨fn, tmps, assign, body, hy, hR⟩ := HY.out _ (x, y) wr.drew hJ1 HLEN.out
      dsimp only [encB, entV] at hy
      have hR2 := hR.mono (R' := fun e W' => ∃ bb, e = .returned (.bool bb) ∧ ((bb = true ∧ J ((la.zip lb).take k ++ [(x, y)]) W' ∧ KeepB n₀ B1 B2 wr.drew W') ∨ (bb = false ∧ Jx ((la.zip lb).take k ++ [(x, y)]) W'))) (by
        rintro e W' (⟨h1, h2, h3⟩ | ⟨h1, h2⟩)
        · exact ⟨true, h1, .inl ⟨rfl, h2, h3⟩⟩
        · exact ⟨false, h1, .inr ⟨rfl, h2⟩⟩)
      clear hR hJ1 HY hJs
      gi_region_with (refine hR2.mono ?_; rintro e W3 ⟨bb, rfl, hcase⟩)
      all_goals
        rcases hcase with ⟨rfl, hJ3, hk3⟩ | ⟨rfl, hJx3⟩
        · have hkd : KeepB n₀ B1 B2 wr W3 := ⟨(below_drewN (Below.refl n₀ wr) 1).trans hk3.1, hk3.2⟩
          gi_wp2
          go_roundw
          case rel => exact ⟨k + 1, by omega, by go_num, by rw [HZT.out]; exact hJ3, hkeep.1.trans hkd.1, hkd.2.1.trans hkeep.2.1, hkd.2.2.trans hkeep.2.2⟩
          case measure => simp [intOf]; omega
        · gi_wp2
          refine bodyPost_ret (results_none rfl _ _ _) rfl ?_
          exact ⟨⟨_, rfl⟩, .inr ⟨_, by rw [← HZT.out]; exact List.take_prefix _ _, hJx3⟩⟩
    · obtain rfl : k = m := by omega
      have htk : (la.zip lb).take k = la.zip lb := List.take_of_length_le (by rw [Hz.out]; exact Nat.le_refl _)
      rw [htk] at hJs
      gi_wp2
      refine bodyPost_end (results_none rfl _ _ _) rfl ?_
      exact ⟨⟨_, rfl⟩, .inl ⟨_, rfl, hJs⟩⟩
end Go.Proofs.Ytkoidphhlfjlhaa
