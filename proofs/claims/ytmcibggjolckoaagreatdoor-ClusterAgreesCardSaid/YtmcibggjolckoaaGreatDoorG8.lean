/- WlChange, WlLog, CrcPairs, CrcIter, CrcAllIt: one behind the other. -/
import Derived.Test.YtmcibggjolckoaaGreatDoorG6
import Derived.Test.YtmcibggjolckoaaGreatDoorG7
import Derived.Deep.RegionWith
import Derived.Test.YtmcibggjolckoaaGreatDoorG1
import Derived.RangeFuncBox
import Derived.RangeFuncNested
import Derived.RangeFuncBound
import Derived.RangeFuncCalls
import Derived.RangeFuncLeaves
import Derived.Shelf.RegionOpen
import Derived.WalkKit
import Derived.OwnWalkIn
import Derived.TacticsInMore
import Derived.LoopNIn
import Derived.LoopIn
import Derived.Maps.AppendAt
import Derived.RegionIn
import Derived.BigRegionIn
namespace Go.Proofs.YtmcibggjolckoaaGreatDoor
open Go Go.RowKit
set_option maxRecDepth 100000

namespace wl
/-- a log behind a call that answered something -/
def told (l : L) (e many : Nat) : L := if e = 0 then { l with many := many } else if e = 2 then l else { l with off := true }
def change (d : vd.Disk) (l : L) (ls : List (List UInt8)) (many : Nat) (op : List UInt8 → Op1) : vd.Disk × L × Nat :=
  if l.off then (d, l, 6) else if (bytes ls).2 ≠ 0 then (d, l, (bytes ls).2)
  else ((op (bytes ls).1 d).1, told l (op (bytes ls).1 d).2 many, (op (bytes ls).1 d).2)
end wl
set_option maxHeartbeats 4000000 in
theorem wal_change {w : World} {p b g : Nat} {d : vd.Disk} {l : wl.L} (v : Value) (ls : List (List UInt8)) (many : Nat) (op : List UInt8 → wl.Op1) (F : Nat) (first caps : Array Value)
    (hg : Lg w g p l) (hd : Dk w p b d) (hv : Strs w v ls) (hf : (crcm.flat ls).length ≤ 1000000000) (hl : ls.length ≤ 1000000000) (ht : TabAt w)
    (eg : ∀ args w, (callFunc F args).run Tryz.prog w = .ok (.enter F args) w)
    (hop : ∀ s, s.length ≤ 1000000000 → ∀ w1, Dk w1 p b d → Lg w1 g p l → Apart [] w w1 → Calls Tryz.prog F (first ++ #[.string (crcm.mk s)] ++ caps) w1 (fun e w2 => e = .returned (.int .i64 ((op s d).2 : Nat)) ∧ Dk w2 p b (op s d).1 ∧ Apart [p, b] w1 w2)) :
    Calls Tryz.prog 88 #[.pointer (some ⟨g, 0, none⟩), v, .int .i64 (many : Int), .func (.func F) first caps] w (fun e w' => e = .returned (.int .i64 ((wl.change d l ls many op).2.2 : Nat)) ∧ Dk w' p b (wl.change d l ls many op).1 ∧ Lg w' g p (wl.change d l ls many op).2.1 ∧ Apart [p, b, g] w w') := by
  have hgo : g ∉ [p, b] := log_out hg hd
  have hpg : p ≠ g := fun e => hgo (by simp [e])
  have hbg : b ≠ g := fun e => hgo (by simp [e])
  have hby := wal_bytes v ls w hv hf hl ht
  have hfl : (wl.bytes ls).2 = 0 → (wl.bytes ls).1.length ≤ 1000000000 := by
    unfold wl.bytes
    split
    · intro _; exact hf
    · intro h; cases h
  obtain ⟨B, hB⟩ : ∃ B, wl.bytes ls = B := ⟨_, rfl⟩
  rw [hB] at hby hfl
  obtain ⟨s, e0⟩ := B
  have hres : wl.change d l ls many op = if l.off then (d, l, 6) else if e0 ≠ 0 then (d, l, e0) else ((op s d).1, wl.told l (op s d).2 many, (op s d).2) := by
    unfold wl.change; rw [hB]
  have HR := Lib.hid hres
  have HFL := Lib.hid hfl
  have HOP := Lib.hid hop
  have HG := Lib.hid hg
  have HD := Lib.hid hd
  have hgl := hg.lt
  have q3 := hg.cell 3 _ rfl
  have hdk : ∀ w', Below w.heap.size w w' → Dk w' p b d ∧ Lg w' g p l := fun w' h => ⟨⟨(h.block _ hd.blk.lt).trans hd.blk, hd.map.below h⟩, (h.block _ hgl).trans hg⟩
  have HK := Lib.hid hdk
  clear hres hB hfl hop hg hd hv hf hl ht hdk
  go_enter Tryz.func88, Tryz.ntmps88
  obtain ⟨o, ho⟩ : ∃ o, l.off = o := ⟨_, rfl⟩
  rw [ho] at q3
  have HO := Lib.hid ho
  clear ho
  cases o with
  | true =>
    go_wp2_with fail
    go_ret
    rw [HR.out, HO.out]
    exact ⟨rfl, HD.out, HG.out, .refl _ _⟩
  | false =>
    by_cases h0 : e0 = 0
    · subst h0
      go_wp2_with fail
      refine hby.mono ?_
      rintro e w1 ⟨rfl, hb1⟩
      obtain ⟨hd1, hg1⟩ := HK.out w1 hb1
      have hcall := HOP.out s (HFL.out (by first | rfl | trivial)) w1 hd1 hg1 (.of_below hb1 _)
      obtain ⟨D2, hD2⟩ : ∃ D2, (op s d).1 = D2 := ⟨_, rfl⟩
      obtain ⟨e2, he2⟩ : ∃ e2, (op s d).2 = e2 := ⟨_, rfl⟩
      rw [hD2, he2] at hcall
      have hres2 : wl.change d l ls many op = (D2, wl.told l e2 many, e2) := by rw [HR.out, HO.out, ← hD2, ← he2]; rfl
      have HR2 := Lib.hid hres2
      have HG1 := Lib.hid hg1
      clear hres2 hD2 he2 hd1 hg1
      go_wp2_with fail
      refine hcall.mono ?_
      rintro e w2 ⟨rfl, hd2, hA2⟩
      have hg2 := HG1.out.apart hA2 hgo
      have r2 := hg2.cell 2 _ rfl
      have r3 := hg2.cell 3 _ rfl
      have z2 := hg2.free 2
      have z3 := hg2.free 3
      have hA02 : Apart [p, b, g] w w2 := (Apart.of_below hb1 _).trans (hA2.mono (by simp))
      have HD2 := Lib.hid hd2
      have HG2 := Lib.hid hg2
      clear hd2 hg2 hcall
      by_cases h1 : e2 = 0
      · subst h1
        go_wp2_with fail
        go_ret
        rw [HR2.out]
        have hA3 := Apart.setCell w2 g 2 (.int .i64 (many : Int))
        exact ⟨rfl, HD2.out.apart hA3 (by simpa using hpg) (by simpa using hbg), HG2.out.set 2 _, hA02.trans (hA3.mono (by simp))⟩
      · have h1i : ¬ (e2 : Int) = 0 := by omega
        by_cases h2 : e2 = 2
        · subst h2
          go_wp2_with fail
          go_ret
          rw [HR2.out]
          exact ⟨rfl, HD2.out, HG2.out, hA02⟩
        · have h2i : ¬ (e2 : Int) = 2 := by omega
          go_wp2_with fail
          go_ret
          rw [HR2.out]
          have hA3 := Apart.setCell w2 g 3 (.bool true)
          refine ⟨rfl, HD2.out.apart hA3 (by simpa using hpg) (by simpa using hbg), ?_, hA02.trans (hA3.mono (by simp))⟩
          show Lg _ g p (wl.told l e2 many)
          unfold wl.told
          rw [if_neg h1, if_neg h2]
          exact HG2.out.set 3 _
    · have h0i : ¬ (e0 : Int) = 0 := by omega
      go_wp2_with fail
      refine hby.mono ?_
      rintro e w1 ⟨rfl, hb1⟩
      obtain ⟨hd1, hg1⟩ := HK.out w1 hb1
      go_wp2_with fail
      go_ret
      rw [HR.out, HO.out, if_neg (by simp), if_pos h0]
      exact ⟨rfl, hd1, hg1, .of_below hb1 _⟩
end Go.Proofs.YtmcibggjolckoaaGreatDoor
namespace Go.Proofs.YtmcibggjolckoaaGreatDoor
open Go Go.RowKit
set_option maxRecDepth 100000

namespace wl
def appendOps (n : vd.Name) (s : List UInt8) : List Op1 := [fun d => vd.append d n s, fun d => vd.sync d n]
def append (d : vd.Disk) (l : L) (ls : List (List UInt8)) : vd.Disk × L × Nat := change d l ls (l.many + ls.length) (fun s d => run (appendOps l.name s) d)
def reset (d : vd.Disk) (l : L) (ls : List (List UInt8)) : vd.Disk × L × Nat := change d l ls ls.length (fun s d => write d l.name s)
end wl
section
variable {w : World} {p b g gl : Nat} {d : vd.Disk} {l : wl.L}
set_option maxHeartbeats 4000000 in
theorem wal_reset (v : Value) (ls : List (List UInt8)) (hg : Lg w g p l) (hd : Dk w p b d) (hok : vd.Ok d) (hv : Strs w v ls) (hf : (crcm.flat ls).length ≤ 1000000000) (hl : ls.length ≤ 1000000000) (ht : TabAt w) (hm : l.name.length ≤ 200) :
    Calls Tryz.prog 71 #[.pointer (some ⟨g, 0, none⟩), v] w (fun e w' => e = .returned (.int .i64 ((wl.reset d l ls).2.2 : Nat)) ∧ Dk w' p b (wl.reset d l ls).1 ∧ Lg w' g p (wl.reset d l ls).2.1 ∧ Apart [p, b, g] w w') := by
  have hc := wal_change v ls ls.length (fun s d => wl.write d l.name s) 74 #[.pointer (some ⟨g, 0, none⟩)] #[] hg hd hv hf hl ht (enters_any Tryz.func74 (by kernel_rfl) rfl)
    (fun s hs w1 h1 h2 _ => (wal_write s h2 h1 hok hm hs).mono (by rintro e w2 ⟨a, b, c, _⟩; exact ⟨a, b, c⟩))
  rw [show wl.change d l ls ls.length (fun s d => wl.write d l.name s) = wl.reset d l ls from rfl] at hc
  obtain ⟨A, c, rfl, hcells⟩ := hv
  clear hcells hg hd hok hf ht
  go_enter Tryz.func71, Tryz.ntmps71
  go_wp2_with fail
  refine hc.mono ?_
  rintro e w2 ⟨rfl, h1, h2, h3⟩
  go_wp2_with fail
  go_ret
  exact ⟨rfl, h1, h2, h3⟩
end
end Go.Proofs.YtmcibggjolckoaaGreatDoor
namespace Go.Proofs.YtmcibggjolckoaaGreatDoor.crcm
def pairs : Nat → Nat → List UInt8 → List (Nat × List UInt8)
  | 0, _, _ => []
  | f + 1, k, s => if (get s).2.2 = 0 then (k + (get s).2.1, (get s).1) :: pairs f (k + (get s).2.1) (s.drop (get s).2.1) else []
theorem pairs_more : ∀ (f g k : Nat) (s : List UInt8), s.length ≤ f → s.length ≤ g → pairs f k s = pairs g k s := by
  intro f
  induction f with
  | zero =>
    intro g k s hf hg
    have : s = [] := List.eq_nil_of_length_eq_zero (by omega)
    subst this
    cases g with
    | zero => rfl
    | succ g => rfl
  | succ f ih =>
    intro g k s hf hg
    cases g with
    | zero =>
      have : s = [] := List.eq_nil_of_length_eq_zero (by omega)
      subst this
      rfl
    | succ g =>
      unfold pairs
      by_cases h : (get s).2.2 = 0
      · obtain ⟨h6, hle, _⟩ := get_ok h
        rw [if_pos h, if_pos h, ih g _ (s.drop (get s).2.1) (by rw [List.length_drop]; omega) (by rw [List.length_drop]; omega)]
      · rw [if_neg h, if_neg h]
def pairsFrom (k : Nat) (s : List UInt8) : List (Nat × List UInt8) := pairs s.length k s
theorem pairsFrom_step {k : Nat} {s : List UInt8} (h : (get s).2.2 = 0) : pairsFrom k s = (k + (get s).2.1, (get s).1) :: pairsFrom (k + (get s).2.1) (s.drop (get s).2.1) := by
  obtain ⟨h6, hle, _⟩ := get_ok h
  unfold pairsFrom
  obtain ⟨n, hn⟩ : ∃ n, s.length = n + 1 := ⟨s.length - 1, by omega⟩
  rw [hn]
  conv => lhs; unfold pairs
  rw [if_pos h, pairs_more n (s.drop (get s).2.1).length _ _ (by rw [List.length_drop]; omega) (Nat.le_refl _)]
theorem pairsFrom_stop {k : Nat} {s : List UInt8} (h : (get s).2.2 ≠ 0) : pairsFrom k s = [] := by
  unfold pairsFrom
  cases s.length with
  | zero => rfl
  | succ n => unfold pairs; rw [if_neg h]
/-- where the last one ends -/
def lastEnd (d : Nat) (ps : List (Nat × List UInt8)) : Nat := ps.foldl (fun _ p => p.1) d
theorem lastEnd_snoc (d : Nat) (ps : List (Nat × List UInt8)) (x : Nat × List UInt8) : lastEnd d (ps ++ [x]) = x.1 := by simp [lastEnd]
theorem pairs_all : ∀ (n : Nat) (k : Nat) (s : List UInt8), s.length ≤ n → (pairsFrom k s).map (·.2) = (allOf s).1 ∧ lastEnd k (pairsFrom k s) = k + (allOf s).2 ∧ (pairsFrom k s).length ≤ s.length := by
  intro n
  induction n with
  | zero =>
    intro k s hs
    have : s = [] := List.eq_nil_of_length_eq_zero (by omega)
    subst this
    exact ⟨rfl, rfl, Nat.le_refl _⟩
  | succ n ih =>
    intro k s hs
    by_cases h : (get s).2.2 = 0
    · obtain ⟨h6, hle, _⟩ := get_ok h
      obtain ⟨h1, h2, h3⟩ := ih (k + (get s).2.1) (s.drop (get s).2.1) (by rw [List.length_drop]; omega)
      rw [List.length_drop] at h3
      rw [pairsFrom_step h, allOf_step h]
      refine ⟨by rw [List.map_cons, h1], ?_, by rw [List.length_cons]; omega⟩
      show lastEnd (k + (get s).2.1) _ = _
      rw [h2]
      show _ = k + ((get s).2.1 + _)
      omega
    · rw [pairsFrom_stop h, allOf_stop h]
      exact ⟨rfl, rfl, Nat.zero_le _⟩
end Go.Proofs.YtmcibggjolckoaaGreatDoor.crcm
namespace Go.Proofs.YtmcibggjolckoaaGreatDoor
open Go Go.RowKit
set_option maxRecDepth 100000

attribute [local go_sem] Oper.semAt_some

def encP (x : Nat × List UInt8) : Array Value := #[.int .i64 (x.1 : Int), .string (crcm.mk x.2)]
/-- what a round keeps: what lay below n₀, and the box of the text -/
def KeepS (n₀ Bs : Nat) (W W' : World) : Prop := Below n₀ W W' ∧ W'.heap[Bs]? = W.heap[Bs]?

theorem AbidesFrom.mono {β : Type} {B B' : Nat} {J : β → World → Prop} (h : AbidesFrom B J) (hB : B ≤ B') : AbidesFrom B' J :=
  fun s X Y row hs hg hr => h s X Y row hs hg (fun r e => ⟨Nat.le_trans hB (hr r e).1, (hr r e).2⟩)
set_option maxRecDepth 100000 in
set_option maxHeartbeats 4000000 in
theorem texts1_in (n : Nat) (hn : 1 ≤ n) (l Bs n₀ : Nat) (s : ByteArray) (hs : s.size ≤ 10000000) (hn₀ : 0 < n₀) (J Jx : List (Nat × List UInt8) → World → Prop)
    (W : World) (hJ : AbidesFrom W.heap.size J)
    (hY : ∀ pre x W1, J pre W1 → pre.length < (crcm.pairsFrom 0 s.data.toList).length → YieldAt Fence.wide (n - 1) Tryz.prog l (encP x) W1 fun e W' =>
      (e = .returned (.bool true) ∧ J (pre ++ [x]) W' ∧ KeepS n₀ Bs W1 W') ∨ (e = .returned (.bool false) ∧ Jx (pre ++ [x]) W'))
    (hBs : W.heap[Bs]? = some (.cells #[.string s] 9 (0, 0))) (hsz1 : n₀ ≤ W.heap.size) (ht : TabAt W) (h0 : J [] W) :
    CallsIn Fence.wide n Tryz.prog 110 #[.func (.yield l) #[] #[], .pointer (some ⟨Bs, 0, none⟩)] W fun e W' => (∃ v, e = .returned v) ∧
      ((∃ ys, ys = crcm.pairsFrom 0 s.data.toList ∧ J ys W') ∨ (∃ pre, pre <+: crcm.pairsFrom 0 s.data.toList ∧ Jx pre W')) := by
  refine callsIn_of_wp Tryz.func110 rfl trivial ?_ rfl
  simp only [Tryz.ntmps110, List.size_toArray, List.length_cons, List.length_nil, Nat.reduceAdd, Nat.reduceSub, Array.replicate_succ, Array.replicate_zero, List.push_toArray, List.append_toArray, List.nil_append, List.cons_append]
  have Hl := Lib.hid (crcm.size_len s)
  gi_wp2
  gi_loopw [3] (fun at_ wr => ∃ (k : Nat) (pre : List (Nat × List UInt8)), k ≤ s.size ∧ at_ = .int .i64 k ∧ crcm.pairsFrom 0 s.data.toList = pre ++ crcm.pairsFrom k (s.data.toList.drop k) ∧ J pre wr ∧ KeepS n₀ Bs W wr)
    (fun at_ _ => s.size - (intOf at_).toNat)
  case atStart => exact ⟨0, [], Nat.zero_le _, rfl, rfl, h0, Below.refl _ _, rfl⟩
  case round =>
    obtain ⟨k, pre, hk, rfl, hall, hJs, hkeep⟩ := hrel
    have htr := ht.below hkeep.1 hn₀
    have hsz0 : n₀ ≤ wr.heap.size := Nat.le_trans hsz1 hkeep.1.size
    have hbs : wr.heap[Bs]? = some (.cells #[.string s] 9 (0, 0)) := hkeep.2.trans hBs
    have hcb := cell_of_one hbs
    have HA := Lib.hid hall
    clear hall
    have hsz : (s.extract k s.size).size ≤ maxLen := extract_le _ _ _ (by omega)
    have hdl : (s.data.toList.drop k).length = s.size - k := by rw [List.length_drop, Hl.out]
    have hex : (s.extract k s.size).data.toList = s.data.toList.drop k := by
      rw [Lib.extract_data, List.take_of_length_le (by omega)]
    obtain ⟨t, m, er, hg⟩ : ∃ t n er, crcm.get (s.data.toList.drop k) = (t, n, er) := ⟨_, _, _, rfl⟩
    by_cases he : er = 0
    · subst he
      have h0 : (crcm.get (s.data.toList.drop k)).2.2 = 0 := by rw [hg]
      have hok := crcm.get_ok h0
      have hst := crcm.pairsFrom_step (k := k) h0
      rw [hg] at hok hst
      simp only [hdl] at hok
      have o1 := hok.1
      have o2 := hok.2.1
      clear hok
      have hg2 : crcm.get (s.extract k s.size).data.toList = (t, m, 0) := by rw [hex]; exact hg
      have Hg := Lib.hid hg2
      have hstep : crcm.pairsFrom 0 s.data.toList = (pre ++ [(k + m, t)]) ++ crcm.pairsFrom (k + m) (s.data.toList.drop (k + m)) := by
        rw [HA.out, hst]
        simp only [List.drop_drop, List.append_assoc, List.cons_append, List.nil_append]
      have hlen : pre.length < (crcm.pairsFrom 0 s.data.toList).length := by rw [hstep]; simp only [List.length_append, List.length_cons, List.length_nil]; omega
      have HS := Lib.hid hstep
      obtain ⟨en, hen⟩ : ∃ en, k + m = en := ⟨_, rfl⟩
      have heni : (k : Int) + (m : Int) = (en : Int) := by omega
      have Hen := Lib.hid hen
      have hY' := hY
      have HY := Lib.hid hY'
      have hJ' := hJ
      have HJ := Lib.hid hJ'
      clear hstep hst hg2 hg hex hdl h0 hY hJ hY' hJ' hen
      gi_wp2_with (refine ⟨trivial, ?_⟩; gi_at_call 111; refine (callsIn_wide.2 (get_any _ _ hsz htr)).mono ?_; unfold GetPost; rw [Hg.out]; rintro e w1 ⟨rfl, hb1⟩; have hJ1 := (AbidesFrom.mono HJ.out hkeep.1.size) pre wr w1 none hJs (grown_of_below hb1 none) (by intro r e; cases e); obtain ⟨fn, tmps, assign, body, hy, hR⟩ := HY.out pre (en, t) w1 hJ1 hlen; dsimp only [encP] at hy)
      refine hR.mono ?_
      have hk1 : KeepS n₀ Bs wr w1 := ⟨hb1.mono hsz0, hb1.block Bs (lt_of_block hbs)⟩
      rintro e W3 (⟨rfl, hJ3, hk3⟩ | ⟨rfl, hJx3⟩)
      · gi_wp2
        go_roundw
        case rel => exact ⟨en, pre ++ [(en, t)], by rw [← Hen.out]; omega, rfl, by rw [HS.out, Hen.out], hJ3, hkeep.1.trans (hk1.1.trans hk3.1), hk3.2.trans (hk1.2.trans hkeep.2)⟩
        case measure => simp [intOf]; omega
      · gi_wp2
        refine bodyPost_ret (results_none rfl _ _ _) rfl ?_
        exact ⟨⟨_, rfl⟩, .inr ⟨pre ++ [(en, t)], ⟨_, by rw [HS.out, Hen.out]⟩, hJx3⟩⟩
    · have h0 : (crcm.get (s.data.toList.drop k)).2.2 ≠ 0 := by rw [hg]; exact he
      have hst := crcm.pairsFrom_stop (k := k) h0
      have hg2 : crcm.get (s.extract k s.size).data.toList = (t, m, er) := by rw [hex]; exact hg
      have Hg := Lib.hid hg2
      have hstep : crcm.pairsFrom 0 s.data.toList = pre := by
        rw [HA.out, hst, List.append_nil]
      have HS := Lib.hid hstep
      have hb : ((er : Int) != 0) = true := by rw [bne_iff_ne]; omega
      have hJ' := hJ
      have HJ := Lib.hid hJ'
      clear hstep hst hg2 hg hex hdl h0 hJ hJ' hY
      gi_wp2_with (refine ⟨trivial, ?_⟩; gi_at_call 111; refine (callsIn_wide.2 (get_any _ _ hsz htr)).mono ?_; unfold GetPost; rw [Hg.out]; rintro e w1 ⟨rfl, hb1⟩)
      refine bodyPost_ret (results_none rfl _ _ _) rfl ?_
      exact ⟨⟨_, rfl⟩, .inl ⟨_, HS.out.symm, (AbidesFrom.mono HJ.out hkeep.1.size) pre wr w1 none hJs (grown_of_below hb1 none) (by intro r e; cases e)⟩⟩
end Go.Proofs.YtmcibggjolckoaaGreatDoor
namespace Go.Proofs.YtmcibggjolckoaaGreatDoor
open Go Go.RowKit
set_option maxRecDepth 100000

attribute [local go_sem] Oper.semAt_some

theorem KeepS.trans {n₀ Bs : Nat} {A B C : World} (h : KeepS n₀ Bs A B) (k : KeepS n₀ Bs B C) : KeepS n₀ Bs A C := ⟨h.1.trans k.1, k.2.trans h.2⟩
theorem texts_stops (n : Nat) (hn : 1 ≤ n) (Bs n₀ : Nat) (s : ByteArray) (hs : s.size ≤ 10000000) (hn₀ : 0 < n₀) (w : World) (hsz : n₀ ≤ w.heap.size) (hb : w.heap[Bs]? = some (.cells #[.string s] 9 (0, 0))) (ht : TabAt w) :
    SeqStopsK Fence.wide n Tryz.prog 110 #[.pointer (some ⟨Bs, 0, none⟩)] encP (KeepS n₀ Bs) (fun ys => ys = crcm.pairsFrom 0 s.data.toList) (fun pre => pre <+: crcm.pairsFrom 0 s.data.toList) (crcm.pairsFrom 0 s.data.toList).length w :=
  fun l J Jx W hW hJ _ hY h0 => texts1_in n hn l Bs n₀ s hs hn₀ J Jx W hJ hY ((hW.block Bs (lt_of_block hb)).trans hb) (Nat.le_trans hsz hW.size) (ht.below hW ht.1) h0

theorem texts_in (n : Nat) (s : ByteArray) (w : World) :
    CallsIn Fence.wide n Tryz.prog 90 #[.string s] w fun e w' => e = .returned (.func (.func 110) #[] #[.pointer (some ⟨w.heap.size, 0, none⟩)]) ∧ w' = w.alloc (.cells #[.string s] 9) := by
  refine callsIn_of_wp Tryz.func90 rfl trivial ?_ rfl
  simp only [Tryz.ntmps90, List.size_toArray, List.length_cons, List.length_nil, Nat.reduceAdd, Nat.reduceSub, Array.replicate_succ, Array.replicate_zero, List.push_toArray, List.append_toArray, List.nil_append, List.cons_append]
  gi_wp2
  go_ret
  exact ⟨rfl, rfl⟩

theorem row_far {W : World} {base : Nat} {e : TypeId} {size k : Nat} {v : Value} {xs : List Value} (hr : W.ownsRow base e size v k xs) {B : Nat} (h : B < base) : some B ≠ v.ownBlock := by
  intro e'
  have := (hr.lt B e'.symm).1
  omega
theorem box_grown {W w1 : World} {B base : Nat} {t e : TypeId} {size k : Nat} {u v : Value} {xs : List Value} {tmp : Obj} (hv : Boxed W B t u) (h : B < base) (hrow : W.ownsRow base e size v k xs) (hg : (W.alloc tmp).grownBy w1 v.ownBlock) : Boxed w1 B t u :=
  (hv.alloc tmp).kept hg (row_far hrow h)
theorem grown_keeps {W w1 : World} {base : Nat} {e : TypeId} {size k : Nat} {v : Value} {xs : List Value} {tmp : Obj} (hrow : W.ownsRow base e size v k xs) (hgrow : (W.alloc tmp).grownBy w1 v.ownBlock) : KeepsOthers W w1 := by
  refine (KeepsOthers.alloc W tmp).trans (KeepsOthers.of_grownBy hgrow fun j o ej hj => ?_)
  rcases (hrow.alloc tmp).2 with ⟨rfl, _⟩ | ⟨g, cap, cur, rfl, _, hgb, _⟩
  · simp [Value.ownBlock] at ej
  · obtain rfl : g = j := by simpa [Value.ownBlock] using ej
    rw [hgb] at hj; cases hj; rfl
theorem grown_below {W w1 : World} {base n₀ : Nat} {e : TypeId} {size k : Nat} {v : Value} {xs : List Value} {tmp : Obj} (hrow : W.ownsRow base e size v k xs) (hgrow : (W.alloc tmp).grownBy w1 v.ownBlock) (h : n₀ ≤ base) (hn : n₀ ≤ W.heap.size) : Below n₀ W w1 :=
  ((Below.refl n₀ W).alloc hn tmp).grown hgrow (by simp; omega) fun j ej => Nat.le_trans h (hrow.lt j ej).1
theorem box_own {β : Type} (B : Nat) (t : TypeId) (f : β → Value) : Own (fun s W => Boxed W B t (f s)) := fun s X Y row h hg hrow =>
  h.kept hg (fun e' => by
    obtain ⟨o, ho, hc⟩ := hrow B e'.symm
    rw [show X.heap[B]? = _ from h] at ho; cases ho; cases hc)

theorem owns_mono {w : World} {base base' : Nat} {e : TypeId} {size n : Nat} {v : Value} {xs : List Value} (h : w.ownsRow base e size v n xs) (hb : base' ≤ base) : w.ownsRow base' e size v n xs := by
  refine ⟨h.1, ?_⟩
  rcases h.2 with h | ⟨g, cap, cur, e1, h1, r⟩
  · exact .inl h
  · exact .inr ⟨g, cap, cur, e1, Nat.le_trans hb h1, r⟩
/-- a slice of strings in blocks from B on -/
def StrsB (B : Nat) (w : World) (v : Value) (ls : List (List UInt8)) : Prop :=
  ∃ A c, v = .slice A ls.length c ∧ ∀ k, k < ls.length → ∃ ad, A = some ad ∧ B ≤ ad.block ∧ w.cell? (ad.add k) = some (.string (crcm.mk (ls.getD k [])))
theorem StrsB.strs {B : Nat} {w : World} {v : Value} {ls : List (List UInt8)} (h : StrsB B w v ls) : Strs w v ls := by
  obtain ⟨A, c, e, hc⟩ := h
  exact ⟨A, c, e, fun k hk => by obtain ⟨ad, e2, _, h2⟩ := hc k hk; exact ⟨ad, e2, h2⟩⟩
theorem StrsB.below {B : Nat} {w w' : World} {v : Value} {ls : List (List UInt8)} (h : StrsB B w v ls) (hb : Below w.heap.size w w') : StrsB B w' v ls := by
  obtain ⟨A, c, e, hc⟩ := h
  exact ⟨A, c, e, fun k hk => by obtain ⟨ad, e2, h1, h2⟩ := hc k hk; exact ⟨ad, e2, h1, cell_later hb h2⟩⟩
theorem StrsB.mono {B B' : Nat} {w : World} {v : Value} {ls : List (List UInt8)} (h : StrsB B w v ls) (hB : B' ≤ B) : StrsB B' w v ls := by
  obtain ⟨A, c, e, hc⟩ := h
  exact ⟨A, c, e, fun k hk => by obtain ⟨ad, e2, h1, h2⟩ := hc k hk; exact ⟨ad, e2, Nat.le_trans hB h1, h2⟩⟩
theorem strsB_of_owns {w : World} {base : Nat} {e : TypeId} {v : Value} {n : Nat} {ls : List (List UInt8)} (hn : n = ls.length) (h : w.ownsRow base e 1 v n (ls.map strV)) : StrsB base w v ls := by
  obtain ⟨A, c, e1, hc⟩ := strs_of_owns hn h
  refine ⟨A, c, e1, fun k hk => ?_⟩
  obtain ⟨ad, e2, h2⟩ := hc k hk
  refine ⟨ad, e2, ?_, h2⟩
  subst e2
  exact (h.lt ad.block (by rw [e1]; rfl)).1
set_option maxRecDepth 100000 in
set_option maxHeartbeats 4000000 in
theorem all_own (s : ByteArray) (w : World) (hs : s.size ≤ 10000000) (ht : TabAt w) :
    Calls Tryz.prog 73 #[.string s] w fun e w' => ∃ v, e = .returned (.tuple #[v, .int .i64 ((crcm.allOf s.data.toList).2 : Nat)]) ∧ w'.ownsRow w.heap.size 9 1 v (crcm.allOf s.data.toList).1.length ((crcm.allOf s.data.toList).1.map strV) ∧ Below w.heap.size w w' := by
  obtain ⟨i0, hi, hz0, hz1, hz2⟩ := info_parts info_string
  refine (callsIn_wide (n := 3)).1 ?_
  refine callsIn_of_wp_marks Tryz.func73 rfl trivial ?_ rfl
  simp only [Tryz.ntmps73, List.size_toArray, List.length_cons, List.length_nil, Nat.reduceAdd, Nat.reduceSub, Array.replicate_succ, Array.replicate_zero, List.push_toArray, List.append_toArray, List.nil_append, List.cons_append]
  gi_wp2_with (refine ⟨trivial, ?_⟩; gi_at_call 90; refine (texts_in _ _ _).mono ?_; rintro e w' ⟨rfl, rfl⟩)
  have hpa := crcm.pairs_all s.data.toList.length 0 s.data.toList (Nat.le_refl _)
  rw [crcm.size_len] at hpa
  have Hpa := Lib.hid hpa
  have hnp : (crcm.pairsFrom 0 s.data.toList).length ≤ 10000000 := by have := hpa.2.2; omega
  clear hpa
  have bO := Boxed.new w 22 (.slice none 0 0)
  have bE := Boxed.new (w.alloc (.cells #[.slice none 0 0] 22)) 3 (.int .i64 0)
  have bS := Boxed.new ((w.alloc (.cells #[.slice none 0 0] 22)).alloc (.cells #[.int .i64 0] 3)) 9 (.string s)
  simp only [World.size_alloc] at bE bS
  have hB0 : Below w.heap.size w (((w.alloc (.cells #[.slice none 0 0] 22)).alloc (.cells #[.int .i64 0] 3)).alloc (.cells #[.string s] 9)) := (((Below.refl _ w).alloc (Nat.le_refl _) _).alloc (by simp) _).alloc (by simp; omega) _
  have ht0 := ht.below hB0 ht.1
  refine wpIn_rangeFunc_ownG rfl (by decide) (gf := 110) (lb := #[.pointer (some ⟨w.heap.size + 1 + 1, 0, none⟩)]) rfl trivial (enters_of Tryz.func110 (by kernel_rfl) rfl)
    (texts_stops 2 (by decide) (w.heap.size + 1 + 1) w.heap.size s hs ht.1 _ (by simp; omega) bS ht0) KeepS.trans
    (fun W l o o' hl h h1 h2 => ⟨belowK_b (w := (((w.alloc (.cells #[.slice none 0 0] 22)).alloc (.cells #[.int .i64 0] 3)).alloc (.cells #[.string s] 9))) (by simp; omega) W l o o' hl h h1 h2, World.putObj_heap_other (by simp at hl; omega)⟩) (Below.refl _ _) (fun _ => rfl)
    (fun pre W => (∃ v, Boxed W w.heap.size 22 v ∧ W.ownsRow (w.heap.size + 3) 9 1 v pre.length ((pre.map (·.2)).map strV) ∧ True) ∧ Boxed W (w.heap.size + 1) 3 (.int .i64 (crcm.lastEnd 0 pre : Nat)) ∧ Boxed W (w.heap.size + 1 + 1) 9 (.string s) ∧ Below w.heap.size w W)
    (fun _ _ _ => False)
    (OwnFrom.and (Own.from (holdsRow_own (w.heap.size + 3) w.heap.size 22 9 1 (fun pre : List (Nat × List UInt8) => pre.length) (fun pre => (pre.map (·.2)).map strV) (fun _ _ => True)) _) (OwnFrom.and (Own.from (box_own _ _ (fun pre : List (Nat × List UInt8) => Value.int .i64 (crcm.lastEnd 0 pre : Nat))) _) (OwnFrom.and (Own.from (box_own _ _ (fun _ : List (Nat × List UInt8) => Value.string s)) _) (ownFrom_below (Nat.le_refl _) (by simp; omega)))))
    (fun _ _ _ _ _ hs _ _ => hs)
    ⟨⟨_, (bO.alloc _).alloc _, World.ownsRow_nil _ _ _ _, trivial⟩, bE.alloc _, bS, hB0⟩
    (fun x => { tmps := #[.string s, undef, .pointer (some ⟨w.heap.size, 0, none⟩), .pointer (some ⟨w.heap.size + 1, 0, none⟩), .int .i64 (x.1 : Int), .string (crcm.mk x.2), .string s, .func (.func 110) #[] #[.pointer (some ⟨w.heap.size + 1 + 1, 0, none⟩)], .int .i64 (x.1 : Int), .string (crcm.mk x.2), undef, undef, undef, undef, undef, undef, undef], defers := [] }) ?assign ?body ?done ?stop
  case assign =>
    intro l x W K hK
    dsimp only [encP]
    gi_wp2
    exact hK
  case body =>
    rintro l pre x W ⟨⟨v, hv, hrow, _⟩, hE, hS, hB⟩ hlt
    have hc := hv.cell
    have hsz3 : w.heap.size + 3 ≤ W.heap.size := by have := hS.lt; omega
    gi_wp2_with (gi_at_builtin; refine wpListIn_append_own _ rfl _ _ 22 rfl (w.heap.size + 3) 9 i0 (.string .empty) 1 16 Tryz.underlying22 hi hz0 hz1 hz2 rfl (by decide) _ _ _ rfl (hrow.alloc _) ⟨W.heap.size, 0, none⟩ 1 1 [strV x.2] rfl rfl (cell_one_new _ _ _) (strV_one _) (by unfold maxLen; omega) (by omega) (by simp; omega) ?_; intro v' w1 hown' hgrow _; obtain ⟨g', cap', rfl⟩ := ownsRow_succ hown'; have hv1 := box_grown hv (by omega) hrow hgrow; have hE1 := box_grown hE (by omega) hrow hgrow; have hS1 := box_grown hS (by omega) hrow hgrow; have hc1 := hv1.cell; have hf1 := hv1.frozen; have he1 := hE1.cell; have hef := hE1.frozen)
    have hgr : (W.alloc (.cells #[strV x.2] 9)).grownBy w1 v.ownBlock := hgrow
    have hko := grown_keeps hrow hgr
    have hbl := grown_below hrow hgr (Nat.le_add_right w.heap.size 3) (by omega)
    have hlen : pre.length + 1 = (pre ++ [x]).length := by simp
    have hmap : (pre.map (·.2)).map strV ++ [strV x.2] = ((pre ++ [x]).map (·.2)).map strV := by simp
    refine ⟨((hko.trans (KeepsOthers.setCell _ _ _)).trans (KeepsOthers.setCell _ _ _)).from _, ⟨(hbl.setCell (p := ⟨w.heap.size, 0, none⟩) (Nat.le_refl _) _).setCell (p := ⟨w.heap.size + 1, 0, none⟩) (Nat.le_succ _) _, ?_⟩, ⟨_, (hv1.set _).other (by omega) _, ?_, trivial⟩, ?_, (hS1.other (by omega) _).other (by omega) _, hB.trans ((hbl.setCell (p := ⟨w.heap.size, 0, none⟩) (Nat.le_refl _) _).setCell (p := ⟨w.heap.size + 1, 0, none⟩) (Nat.le_succ _) _)⟩
    · exact ((hS1.other (B' := w.heap.size) (by omega) _).other (B' := w.heap.size + 1) (by omega) _).trans hS.symm
    · rw [← hlen, ← hmap]
      exact (hown'.kept (grownBy_setCell' _ _ _) (.inr (row_far hown' (by omega)).symm)).kept (grownBy_setCell' _ _ _) (.inr (row_far hown' (by omega)).symm)
    · rw [crcm.lastEnd_snoc]
      exact (hE1.other (by omega) _).set _
  case done =>
    rintro D ys W hD rfl ⟨⟨v, hv, hrow, _⟩, hE, hS, hB⟩ hK
    have hc := hv.cell
    have hcf := hv.frozen
    have he := hE.cell
    have hef := hE.frozen
    obtain ⟨a, n, c, rfl⟩ : ∃ a n c, v = .slice a n c := by
      rcases hrow.2 with ⟨h, _⟩ | ⟨g, cap, cur, h, _⟩
      · exact ⟨_, _, _, h⟩
      · exact ⟨_, _, _, h⟩
    gi_wp2
    gi_region
    gi_wp2
    obtain ⟨W2, hW2⟩ : ∃ W2, ((W.setCell ⟨w.heap.size, 0, none⟩ (Value.slice a n c)).setCell ⟨w.heap.size + 1, 0, none⟩ (Value.int .i64 (crcm.lastEnd 0 (crcm.pairsFrom 0 s.data.toList) : Nat))).drew = W2 := ⟨_, rfl⟩
    have hK2 : W2.heap[D]? = some (.deferred (some [])) := by rw [← hW2]; exact (((KeepsOthers.setCell _ _ _).trans (KeepsOthers.setCell _ _ _)).trans (KeepsOthers.drew _)).same D _ hK rfl
    have hv2 : Boxed W2 w.heap.size 22 (.slice a n c) := by rw [← hW2]; exact (hv.set _).other (by omega) _
    have he2 : Boxed W2 (w.heap.size + 1) 3 (.int .i64 (crcm.lastEnd 0 (crcm.pairsFrom 0 s.data.toList) : Nat)) := by rw [← hW2]; exact (hE.other (by omega) _).set _
    have hr2 : W2.ownsRow (w.heap.size + 3) 9 1 (.slice a n c) (crcm.pairsFrom 0 s.data.toList).length (((crcm.pairsFrom 0 s.data.toList).map (·.2)).map strV) := by
      rw [← hW2]; exact ((hrow.kept (grownBy_setCell' _ _ _) (.inr (row_far hrow (by omega)).symm)).kept (grownBy_setCell' _ _ _) (.inr (row_far hrow (by omega)).symm)).drew
    have hb2 : Below w.heap.size w W2 := by rw [← hW2]; exact ((hB.setCell (p := ⟨w.heap.size, 0, none⟩) (Nat.le_refl _) _).setCell (p := ⟨w.heap.size + 1, 0, none⟩) (Nat.le_succ _) _).drew
    rw [hW2]
    clear hW2
    refine ⟨by simp, .inl ⟨_, _, rfl, run_takeDeferred hK2, ?_⟩⟩
    have hc3 := cell_kept hv2.cell (grownBy_putObj' _ D (.deferred none)) (fun r e => by cases e; exact ⟨_, hK2, rfl⟩)
    have he3 := cell_kept he2.cell (grownBy_putObj' _ D (.deferred none)) (fun r e => by cases e; exact ⟨_, hK2, rfl⟩)
    have hr3 := ownsRow_putObj hr2 (.deferred none) hK2 rfl
    have hb3 : Below w.heap.size w (W2.putObj D (.deferred none)) := hb2.trans (belowK_b (w := w) (Nat.le_refl _) W2 D _ _ (by simp at hD; omega) hK2 rfl rfl)
    refine ⟨.tuple #[.slice a n c, .int .i64 (crcm.lastEnd 0 (crcm.pairsFrom 0 s.data.toList) : Nat)], ?_, .slice a n c, ?_, ?_, hb3⟩
    · simp [results, Tryz.f73, go_sem, hc3, he3]
    · rw [Hpa.out.2.1, Nat.zero_add]
    · rw [← Hpa.out.1]
      refine owns_mono ?_ (show w.heap.size ≤ w.heap.size + 3 by omega)
      rw [List.length_map]
      exact hr3
  case stop =>
    rintro D c pre W _ _ h _
    exact h.elim
theorem all_from (s : ByteArray) (w : World) (hs : s.size ≤ 10000000) (ht : TabAt w) :
    Calls Tryz.prog 73 #[.string s] w fun e w' => ∃ v, e = .returned (.tuple #[v, .int .i64 ((crcm.allOf s.data.toList).2 : Nat)]) ∧ StrsB w.heap.size w' v (crcm.allOf s.data.toList).1 ∧ Below w.heap.size w w' :=
  (all_own s w hs ht).mono (by rintro e w' ⟨v, h1, h2, h3⟩; exact ⟨v, h1, strsB_of_owns rfl h2, h3⟩)
theorem all_any (s : ByteArray) (w : World) (hs : s.size ≤ 10000000) (ht : TabAt w) :
    Calls Tryz.prog 73 #[.string s] w fun e w' => ∃ v, e = .returned (.tuple #[v, .int .i64 ((crcm.allOf s.data.toList).2 : Nat)]) ∧ Strs w' v (crcm.allOf s.data.toList).1 ∧ Below w.heap.size w w' :=
  (all_from s w hs ht).mono (by rintro e w' ⟨v, h1, h2, h3⟩; exact ⟨v, h1, h2.strs, h3⟩)
end Go.Proofs.YtmcibggjolckoaaGreatDoor
