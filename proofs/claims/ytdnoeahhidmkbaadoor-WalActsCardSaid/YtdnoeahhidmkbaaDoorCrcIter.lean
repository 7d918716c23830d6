/- crc.All walked: a range over a function: the iterator's contract, and the caller. -/
import Derived.RangeFuncBox
import Derived.RangeFuncNested
import Derived.RangeFuncBound
import Derived.RangeFuncCalls
import Derived.RangeFuncLeaves
import Derived.Shelf.RegionOpen
import Derived.WalkKit
import Derived.OwnWalkIn
import Derived.TacticsInMore
import Derived.LoopNIn
import Derived.LoopIn
import Derived.Maps.AppendAt
import Derived.Test.YtdnoeahhidmkbaaDoorCrcAll
import Derived.Test.YtdnoeahhidmkbaaDoorCrcPairs
namespace Go.Proofs.YtdnoeahhidmkbaaDoor
open Go Go.RowKit
set_option maxRecDepth 100000

attribute [local go_sem] Oper.semAt_some

def encP (x : Nat × List UInt8) : Array Value := #[.int .i64 (x.1 : Int), .string (crcm.mk x.2)]
/-- what a round keeps: what lay below n₀, and the box of the text -/
def KeepS (n₀ Bs : Nat) (W W' : World) : Prop := Below n₀ W W' ∧ W'.heap[Bs]? = W.heap[Bs]?

theorem AbidesFrom.mono {β : Type} {B B' : Nat} {J : β → World → Prop} (h : AbidesFrom B J) (hB : B ≤ B') : AbidesFrom B' J :=
  fun s X Y row hs hg hr => h s X Y row hs hg (fun r e => ⟨Nat.le_trans hB (hr r e).1, (hr r e).2⟩)
set_option maxRecDepth 100000 in
set_option maxHeartbeats 4000000 in
theorem texts1_in (n : Nat) (hn : 1 ≤ n) (l Bs n₀ : Nat) (s : ByteArray) (hs : s.size ≤ 10000000) (hn₀ : 0 < n₀) (J Jx : List (Nat × List UInt8) → World → Prop)
    (W : World) (hJ : AbidesFrom W.heap.size J)
    (hY : ∀ pre x W1, J pre W1 → pre.length < (crcm.pairsFrom 0 s.data.toList).length → YieldAt Fence.wide (n - 1) Tryd.prog l (encP x) W1 fun e W' =>
      (e = .returned (.bool true) ∧ J (pre ++ [x]) W' ∧ KeepS n₀ Bs W1 W') ∨ (e = .returned (.bool false) ∧ Jx (pre ++ [x]) W'))
    (hBs : W.heap[Bs]? = some (.cells #[.string s] 9 (0, 0))) (hsz1 : n₀ ≤ W.heap.size) (ht : TabAt W) (h0 : J [] W) :
    CallsIn Fence.wide n Tryd.prog 85 #[.func (.yield l) #[] #[], .pointer (some ⟨Bs, 0, none⟩)] W fun e W' => (∃ v, e = .returned v) ∧
      ((∃ ys, ys = crcm.pairsFrom 0 s.data.toList ∧ J ys W') ∨ (∃ pre, pre <+: crcm.pairsFrom 0 s.data.toList ∧ Jx pre W')) := by
  refine callsIn_of_wp Tryd.func85 rfl trivial ?_ rfl
  simp only [Tryd.ntmps85, List.size_toArray, List.length_cons, List.length_nil, Nat.reduceAdd, Nat.reduceSub, Array.replicate_succ, Array.replicate_zero, List.push_toArray, List.append_toArray, List.nil_append, List.cons_append]
  have Hl := Lib.hid (crcm.size_len s)
  gi_wp2
  gi_loopw [3] (fun at_ wr => ∃ (k : Nat) (pre : List (Nat × List UInt8)), k ≤ s.size ∧ at_ = .int .i64 k ∧ crcm.pairsFrom 0 s.data.toList = pre ++ crcm.pairsFrom k (s.data.toList.drop k) ∧ J pre wr ∧ KeepS n₀ Bs W wr)
    (fun at_ _ => s.size - (intOf at_).toNat)
  case atStart => exact ⟨0, [], Nat.zero_le _, rfl, rfl, h0, Below.refl _ _, rfl⟩
  case round =>
    obtain ⟨k, pre, hk, rfl, hall, hJs, hkeep⟩ := hrel
    have htr := ht.below hkeep.1 hn₀
    have hsz0 : n₀ ≤ wr.heap.size := Nat.le_trans hsz1 hkeep.1.size
    have hbs : wr.heap[Bs]? = some (.cells #[.string s] 9 (0, 0)) := hkeep.2.trans hBs
    have hcb := cell_of_one hbs
    have HA := Lib.hid hall
    clear hall
    have hsz : (s.extract k s.size).size ≤ maxLen := extract_le _ _ _ (by omega)
    have hdl : (s.data.toList.drop k).length = s.size - k := by rw [List.length_drop, Hl.out]
    have hex : (s.extract k s.size).data.toList = s.data.toList.drop k := by
      rw [Lib.extract_data, List.take_of_length_le (by omega)]
    obtain ⟨t, m, er, hg⟩ : ∃ t n er, crcm.get (s.data.toList.drop k) = (t, n, er) := ⟨_, _, _, rfl⟩
    by_cases he : er = 0
    · subst he
      have h0 : (crcm.get (s.data.toList.drop k)).2.2 = 0 := by rw [hg]
      have hok := crcm.get_ok h0
      have hst := crcm.pairsFrom_step (k := k) h0
      rw [hg] at hok hst
      simp only [hdl] at hok
      have o1 := hok.1
      have o2 := hok.2.1
      clear hok
      have hg2 : crcm.get (s.extract k s.size).data.toList = (t, m, 0) := by rw [hex]; exact hg
      have Hg := Lib.hid hg2
      have hstep : crcm.pairsFrom 0 s.data.toList = (pre ++ [(k + m, t)]) ++ crcm.pairsFrom (k + m) (s.data.toList.drop (k + m)) := by
        rw [HA.out, hst]
        simp only [List.drop_drop, List.append_assoc, List.cons_append, List.nil_append]
      have hlen : pre.length < (crcm.pairsFrom 0 s.data.toList).length := by rw [hstep]; simp only [List.length_append, List.length_cons, List.length_nil]; omega
      have HS := Lib.hid hstep
      obtain ⟨en, hen⟩ : ∃ en, k + m = en := ⟨_, rfl⟩
      have heni : (k : Int) + (m : Int) = (en : Int) := by omega
      have Hen := Lib.hid hen
      have hY' := hY
      have HY := Lib.hid hY'
      have hJ' := hJ
      have HJ := Lib.hid hJ'
      clear hstep hst hg2 hg hex hdl h0 hY hJ hY' hJ' hen
      gi_wp2_with (refine ⟨trivial, ?_⟩; gi_at_call 86; refine (callsIn_wide.2 (get_any _ _ hsz htr)).mono ?_; unfold GetPost; rw [Hg.out]; rintro e w1 ⟨rfl, hb1⟩; have hJ1 := (AbidesFrom.mono HJ.out hkeep.1.size) pre wr w1 none hJs (grown_of_below hb1 none) (by intro r e; cases e); obtain ⟨fn, tmps, assign, body, hy, hR⟩ := HY.out pre (en, t) w1 hJ1 hlen; dsimp only [encP] at hy)
      refine hR.mono ?_
      have hk1 : KeepS n₀ Bs wr w1 := ⟨hb1.mono hsz0, hb1.block Bs (lt_of_block hbs)⟩
      rintro e W3 (⟨rfl, hJ3, hk3⟩ | ⟨rfl, hJx3⟩)
      · gi_wp2
        go_roundw
        case rel => exact ⟨en, pre ++ [(en, t)], by rw [← Hen.out]; omega, rfl, by rw [HS.out, Hen.out], hJ3, hkeep.1.trans (hk1.1.trans hk3.1), hk3.2.trans (hk1.2.trans hkeep.2)⟩
        case measure => simp [intOf]; omega
      · gi_wp2
        refine bodyPost_ret (results_none rfl _ _ _) rfl ?_
        exact ⟨⟨_, rfl⟩, .inr ⟨pre ++ [(en, t)], ⟨_, by rw [HS.out, Hen.out]⟩, hJx3⟩⟩
    · have h0 : (crcm.get (s.data.toList.drop k)).2.2 ≠ 0 := by rw [hg]; exact he
      have hst := crcm.pairsFrom_stop (k := k) h0
      have hg2 : crcm.get (s.extract k s.size).data.toList = (t, m, er) := by rw [hex]; exact hg
      have Hg := Lib.hid hg2
      have hstep : crcm.pairsFrom 0 s.data.toList = pre := by
        rw [HA.out, hst, List.append_nil]
      have HS := Lib.hid hstep
      have hb : ((er : Int) != 0) = true := by rw [bne_iff_ne]; omega
      have hJ' := hJ
      have HJ := Lib.hid hJ'
      clear hstep hst hg2 hg hex hdl h0 hJ hJ' hY
      gi_wp2_with (refine ⟨trivial, ?_⟩; gi_at_call 86; refine (callsIn_wide.2 (get_any _ _ hsz htr)).mono ?_; unfold GetPost; rw [Hg.out]; rintro e w1 ⟨rfl, hb1⟩)
      refine bodyPost_ret (results_none rfl _ _ _) rfl ?_
      exact ⟨⟨_, rfl⟩, .inl ⟨_, HS.out.symm, (AbidesFrom.mono HJ.out hkeep.1.size) pre wr w1 none hJs (grown_of_below hb1 none) (by intro r e; cases e)⟩⟩
end Go.Proofs.YtdnoeahhidmkbaaDoor
