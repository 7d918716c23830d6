/- The disk's small calls. -/
import Derived.Test.YtdnoeahhidmkbaaDoorVdSet
import Derived.Test.YtdnoeahhidmkbaaDoorStrs
namespace Go.Proofs.YtdnoeahhidmkbaaDoor
open Go Go.RowKit Go.Lib
set_option maxRecDepth 100000

theorem vret_of {a b : Value} (h : a = b) : Ending.returned a = Ending.returned b := by rw [h]
def dptr (p : Nat) : Value := .pointer (some ⟨p, 0, none⟩)
theorem vd_new (c : Nat) (w : World) (hc : c ≤ 1000000000) :
    Calls Tryd.prog 10 #[.int .i64 (c : Int)] w (fun e w' => ∃ p b, e = .returned (dptr p) ∧ w.heap.size ≤ p ∧ w.heap.size ≤ b ∧ Dk w' p b ⟨c, [], false, 0, 0⟩ ∧ Below w.heap.size w w') := by
  have e1 : max (c : Int) 0 = c := by omega
  have hmk := run_makeMap (P := Tryd.prog) 74 w
  go_enter Tryd.func10, Tryd.ntmps10
  go_wp2_with fail
  go_ret
  have hb1 : Below w.heap.size w (w.alloc (.map #[] 0)) := (Below.refl _ w).alloc (Nat.le_refl _) _
  have hsz : (w.alloc (.map #[] 0)).heap.size = w.heap.size + 1 := Array.size_push _
  have hv := Vb.new (w.alloc (.map #[] 0)) (diskV w.heap.size ⟨c, [], false, 0, 0⟩) 76
  have hb2 := (Below.refl (w.alloc (.map #[] 0)).heap.size (w.alloc (.map #[] 0))).alloc (Nat.le_refl _) (.cells (diskV w.heap.size ⟨c, [], false, 0, 0⟩).toArray 76)
  have hm := (FMap.made w).below hb2
  rw [hsz] at hv
  exact ⟨w.heap.size + 1, w.heap.size, rfl, by omega, by omega, ⟨hv, hm⟩, hb1.trans (hb2.mono (by omega))⟩
theorem vd_up {w : World} {p b : Nat} {d : vd.Disk} (hd : Dk w p b d) :
    Calls Tryd.prog 25 #[dptr p] w (fun e w' => e = .returned (.bool (!d.off)) ∧ w' = w) := by
  have q := hd.blk.cell 3 _ rfl
  unfold dptr
  go_enter Tryd.func25, Tryd.ntmps25
  go_wp2
  go_ret
  exact ⟨rfl, rfl⟩
theorem vd_size {w : World} {p b : Nat} {d : vd.Disk} (hd : Dk w p b d) :
    Calls Tryd.prog 26 #[dptr p] w (fun e w' => e = .returned (.int .i64 (vd.total d.files : Int)) ∧ w' = w) := by
  have q := hd.blk.cell 1 _ rfl
  unfold dptr
  go_enter Tryd.func26, Tryd.ntmps26
  go_wp2
  go_ret
  exact ⟨rfl, rfl⟩
theorem vd_on {w : World} {p b : Nat} {d : vd.Disk} (hd : Dk w p b d) :
    Calls Tryd.prog 19 #[dptr p] w (fun e w' => e = .returned (.tuple #[]) ∧ Dk w' p b { d with off := false, left := 0 } ∧ Apart [p] w w') := by
  have q := hd.blk.cell 3 _ rfl
  have q4 := hd.blk.cell 4 _ rfl
  have z := hd.blk.free 3
  have z4 := hd.blk.free 4
  have hpb := hd.ne
  have h1 := Apart.setCell w p 3 (.bool false)
  have h2 := Apart.setCell (w.setCell ⟨p, 3, none⟩ (.bool false)) p 4 (.int .i64 0)
  have hA := h1.trans h2
  have hb := (hd.blk.set 3 (.bool false)).set 4 (.int .i64 0)
  have hm := hd.map.apart hA (by simp; exact fun e => hpb e.symm)
  unfold dptr
  go_enter Tryd.func19, Tryd.ntmps19
  go_wp2
  go_end0
  exact ⟨rfl, ⟨hb, hm⟩, hA⟩
theorem vd_fuse {w : World} {p b : Nat} {d : vd.Disk} (hd : Dk w p b d) (n k : Int) :
    Calls Tryd.prog 18 #[dptr p, .int .i64 n, .int .i64 k] w (fun e w' => e = .returned (.tuple #[]) ∧ Dk w' p b { d with left := (max n 0).toNat, keep := k } ∧ Apart [p] w w') := by
  have q := hd.blk.cell 4 _ rfl
  have q4 := hd.blk.cell 5 _ rfl
  have z := hd.blk.free 4
  have z4 := hd.blk.free 5
  have hpb := hd.ne
  obtain ⟨m, hm⟩ : ∃ m, m = (max n 0).toNat := ⟨_, rfl⟩
  have hm2 : max n 0 = (m : Int) := by omega
  have h1 := Apart.setCell w p 4 (.int .i64 (m : Int))
  have h2 := Apart.setCell (w.setCell ⟨p, 4, none⟩ (.int .i64 (m : Int))) p 5 (.int .i64 k)
  have hA := h1.trans h2
  have hb := (hd.blk.set 4 (.int .i64 (m : Int))).set 5 (.int .i64 k)
  have hmm := hd.map.apart hA (by simp; exact fun e => hpb e.symm)
  rw [← hm]
  clear hm
  unfold dptr
  go_enter Tryd.func18, Tryd.ntmps18
  go_wp2
  go_end0
  exact ⟨rfl, ⟨hb, hmm⟩, hA⟩

namespace vd
def good (s : Name) : Bool := decide (s ≠ []) && decide (s.length ≤ 60)
def nameErr (off : Bool) (l : List Name) : Nat := if off then 6 else if l.all good then 0 else 1
end vd
theorem vd_named {w : World} {p b : Nat} {d : vd.Disk} (hd : Dk w p b d) (v : Value) (l : List vd.Name) (hv : Strs w v l) (hl : l.length ≤ 1000) (hs : ∀ x ∈ l, x.length ≤ maxLen) :
    Calls Tryd.prog 59 #[dptr p, v] w (fun e w' => e = .returned (.int .i64 (vd.nameErr d.off l : Nat)) ∧ w' = w) := by
  obtain ⟨A, c, rfl, hcells⟩ := hv
  have q := hd.blk.cell 3 _ rfl
  have hsn : ∀ k, k < l.length → l.take (k + 1) = l.take k ++ [l.getD k []] := fun k h => by rw [List.take_add_one, List.getD_eq_getElem?_getD, List.getElem?_eq_getElem h]; rfl
  have hin : ∀ k, k < l.length → l.getD k [] ∈ l := fun k h => by rw [List.getD_eq_getElem?_getD, List.getElem?_eq_getElem h]; exact List.getElem_mem h
  obtain ⟨n, hn⟩ : ∃ n, l.length = n := ⟨_, rfl⟩
  have htk : l.take n = l := by rw [← hn]; exact List.take_length
  rw [hn] at hcells hsn hin hl ⊢
  have HC := Lib.hid hcells
  have HIN := Lib.hid hin
  have HSN := Lib.hid hsn
  have HTK := Lib.hid htk
  have HS := Lib.hid hs
  clear hcells hin hsn htk hs hn
  unfold dptr
  go_enter Tryd.func59, Tryd.ntmps59
  cases ho : d.off with
  | true =>
    rw [ho] at q
    go_wp2_with fail
    go_ret
    exact ⟨rfl, rfl⟩
  | false =>
    rw [ho] at q
    clear ho
    go_wp2_with fail
    go_loop [13] (fun i => ∃ k : Nat, k ≤ n ∧ i = .int .i64 k ∧ (l.take k).all vd.good = true) (fun i => n - (intOf i).toNat)
    case atStart => exact ⟨0, Nat.zero_le _, rfl, rfl⟩
    case round =>
      obtain ⟨k, hk, rfl, hall⟩ := hrel
      have HALL := Lib.hid hall
      clear hall
      by_cases hlt : k < n
      · obtain ⟨ad, rfl, c0⟩ := HC.out k hlt
        have hs := HSN.out k hlt
        have hmem := HIN.out k hlt
        obtain ⟨t, ht⟩ : ∃ t, l.getD k [] = t := ⟨_, rfl⟩
        rw [ht] at c0 hs hmem
        have hlen := HS.out t hmem
        unfold maxLen at hlen
        obtain ⟨N, hN⟩ : ∃ N, t.length = N := ⟨_, rfl⟩
        have hsz : (crcm.mk t).size = N := by rw [crcm.mk_size, hN]
        rw [hN] at hlen
        have hie : (crcm.mk t).toList.isEmpty = t.isEmpty := by rw [mk_toL]
        by_cases hg : vd.good t = true
        · have hne : t.isEmpty = false := by
            cases t with
            | nil => revert hg; decide
            | cons x r => rfl
          rw [hne] at hie
          clear hne
          have h60 : N ≤ 60 := by
            unfold vd.good at hg
            rw [Bool.and_eq_true, decide_eq_true_iff, decide_eq_true_iff, hN] at hg
            exact hg.2
          have HG := Lib.hid hg
          have HSS := Lib.hid hs
          clear hg hs ht hN
          go_wp2
          go_round
          case rel => exact ⟨k + 1, by omega, by go_num, by rw [HSS.out, List.all_append, HALL.out, List.all_cons, HG.out]; rfl⟩
          case measure => simp [intOf]; omega
        · have hno : l.all vd.good = false := by
            rw [List.all_eq_false]
            exact ⟨t, hmem, hg⟩
          have HNO := Lib.hid hno
          by_cases hne : t = []
          · rw [hne, show ([] : List UInt8).isEmpty = true from rfl, ← hne] at hie
            clear hg hs ht hN hno hne
            go_wp2
            go_ret
            exact ⟨vret_of (by unfold vd.nameErr; rw [HNO.out]; rfl), rfl⟩
          · have h60 : 60 < N := by
              unfold vd.good at hg
              rw [Bool.and_eq_true, decide_eq_true_iff, decide_eq_true_iff, hN] at hg
              rcases Nat.lt_or_ge 60 N with h | h
              · exact h
              · exact absurd ⟨hne, h⟩ hg
            have hni : t.isEmpty = false := by
              cases t with
              | nil => exact absurd rfl hne
              | cons x r => rfl
            rw [hni] at hie
            clear hg hs ht hN hno hni hne
            go_wp2
            go_ret
            exact ⟨vret_of (by unfold vd.nameErr; rw [HNO.out]; rfl), rfl⟩
      · obtain rfl : k = n := by omega
        have hall := HALL.out
        rw [HTK.out] at hall
        have HALL2 := Lib.hid hall
        clear hall
        go_wp2
        go_ret
        exact ⟨vret_of (by unfold vd.nameErr; rw [HALL2.out]; rfl), rfl⟩
end Go.Proofs.YtdnoeahhidmkbaaDoor
