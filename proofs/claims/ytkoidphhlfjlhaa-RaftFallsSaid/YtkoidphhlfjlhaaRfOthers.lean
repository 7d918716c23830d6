/- others, majority: what is done for each, what is asked of each. -/
import Derived.Test.YtkoidphhlfjlhaaRfSend
import Derived.Lib.MinMax
namespace Go.Proofs.Ytkoidphhlfjlhaa
open Go Go.RowKit Go.Deep
set_option maxRecDepth 100000

theorem enters_any {f : FuncId} {fn : Func} {c : Code} (hf : Try.prog.funcs[f]? = some fn) (hname : (fn.name == "runtime.NumGoroutine") = false) (hb : fn.body = some c) : ∀ args w, (callFunc f args).run Try.prog w = .ok (.enter f args) w := by
  intro args w
  have h1 : fn.name ≠ "runtime.NumGoroutine" := by simpa using hname
  simp [callFunc, hf, h1, hb, mark]
set_option maxHeartbeats 4000000 in
theorem others_any {s : Nat} {w : World} (F : Nat) (fst caps : Array Value) (id many : Int) (N : Nat) (hN : min many 7 = (N : Int)) (hN7 : N ≤ 7) (Inv : Nat → World → Prop)
    (hc : ∀ j w, Inv j w → w.cell? ⟨s, 0, none⟩ = some (.int .i64 id) ∧ w.cell? ⟨s, 1, none⟩ = some (.int .i64 many))
    (hskip : ∀ (j : Nat) w, Inv j w → (j : Int) = id → Inv (j + 1) w)
    (eg : ∀ args w, (callFunc F args).run Try.prog w = .ok (.enter F args) w)
    (hf : ∀ (j : Nat) w, j < N → (j : Int) ≠ id → Inv j w → Calls Try.prog F (fst.push (.int .i64 (j : Int)) ++ caps) w (fun e w2 => e = .returned (.tuple #[]) ∧ Inv (j + 1) w2)) (h0 : Inv 0 w) :
    Calls Try.prog 16 #[.pointer (some ⟨s, 0, none⟩), .func (.func F) fst caps] w fun e w' => e = .returned (.tuple #[]) ∧ Inv N w' := by
  obtain ⟨c0, c1⟩ := hc 0 w h0
  have HC := Lib.hid hc
  have HS := Lib.hid hskip
  have HF := Lib.hid hf
  have H0 := Lib.hid h0
  have HN := Lib.hid hN
  clear hc hskip hf h0
  go_enter Try.func16, Try.ntmps16
  go_upto_region 1 with fail
  clear c0 c1
  go_loopw [11] (fun i wr => ∃ j : Nat, j ≤ N ∧ i = .int .i64 j ∧ Inv j wr) (fun i _ => N - (intOf i).toNat)
  case atStart => exact ⟨0, Nat.zero_le _, rfl, H0.out⟩
  case round =>
    obtain ⟨j, hj, rfl, hI⟩ := hrel
    have HI := Lib.hid hI
    clear hI
    obtain ⟨c0, c1⟩ := HC.out j _ HI.out
    by_cases hlt : j < N
    · by_cases hid : (j : Int) = id
      · have hb : ((j : Int) != id) = false := by simp [hid]
        have HD := Lib.hid hid
        clear hid
        go_wp2
        go_roundw
        case rel => exact ⟨j + 1, by omega, by go_num, HS.out j _ HI.out HD.out⟩
        case measure => simp [intOf]; omega
      · have hb : ((j : Int) != id) = true := by simp [hid]
        have hcall := HF.out j _ hlt hid HI.out
        clear hid
        go_wp2_with fail
        refine hcall.mono ?_
        rintro e w2 ⟨rfl, hI2⟩
        have HI2 := Lib.hid hI2
        clear hI2 hcall c0 c1
        go_wp2_with fail
        go_roundw
        case rel => exact ⟨j + 1, by omega, by go_num, HI2.out⟩
        case measure => simp [intOf]; omega
    · obtain rfl : j = N := by omega
      go_wp2
      go_end0
      exact ⟨rfl, HI.out⟩
def cnt (P : Nat → Bool) (j : Nat) : Nat := ((List.range j).filter P).length
theorem cnt_le (P : Nat → Bool) (j : Nat) : cnt P j ≤ j := by
  have := List.length_filter_le P (List.range j)
  simpa [cnt] using this
theorem cnt_yes {P : Nat → Bool} {j : Nat} (h : P j = true) : cnt P (j + 1) = cnt P j + 1 := by
  unfold cnt; rw [List.range_succ, List.filter_append]; simp [h]
theorem cnt_no {P : Nat → Bool} {j : Nat} (h : P j = false) : cnt P (j + 1) = cnt P j := by
  unfold cnt; rw [List.range_succ, List.filter_append]; simp [h]
set_option maxHeartbeats 4000000 in
theorem majority_any {s : Nat} {w : World} (F : Nat) (caps : Array Value) (many : Int) (N : Nat) (hN : min many 7 = (N : Int)) (hN7 : N ≤ 7) (P : Nat → Bool) (Inv : World → Prop)
    (hc : ∀ w, Inv w → w.cell? ⟨s, 1, none⟩ = some (.int .i64 many))
    (eg : ∀ args w, (callFunc F args).run Try.prog w = .ok (.enter F args) w)
    (hf : ∀ (j : Nat) w, j < N → Inv w → Calls Try.prog F (#[.int .i64 (j : Int)] ++ caps) w (fun e w2 => e = .returned (.bool (P j)) ∧ Inv w2)) (h0 : Inv w) :
    Calls Try.prog 38 #[.pointer (some ⟨s, 0, none⟩), .func (.func F) #[] caps] w fun e w' => e = .returned (.bool (decide (many < 2 * (cnt P N : Int)))) ∧ Inv w' := by
  have c1 := hc w h0
  have HC := Lib.hid hc
  have HF := Lib.hid hf
  have H0 := Lib.hid h0
  have HN := Lib.hid hN
  clear hc hf h0
  go_enter Try.func38, Try.ntmps38
  go_upto_region 3 with fail
  clear c1
  go_loopw [5, 13] (fun n i wr => ∃ j m : Nat, j ≤ N ∧ i = .int .i64 j ∧ m = cnt P j ∧ n = .int .i64 m ∧ Inv wr) (fun _ i _ => N - (intOf i).toNat)
  case atStart => exact ⟨0, 0, Nat.zero_le _, rfl, rfl, rfl, H0.out⟩
  case round =>
    obtain ⟨j, m, hj, rfl, hm, rfl, hI⟩ := hrel
    have HI := Lib.hid hI
    have hm7 : m ≤ 7 := by have := cnt_le P j; omega
    have HM := Lib.hid hm
    clear hI hm
    have c1 := HC.out _ HI.out
    by_cases hlt : j < N
    · have hcall := HF.out j _ hlt HI.out
      go_wp2_with fail
      refine hcall.mono ?_
      rintro e w2 ⟨rfl, hI2⟩
      have HI2 := Lib.hid hI2
      clear hI2 hcall c1
      cases hp : P j with
      | true =>
        have hs := cnt_yes hp
        rw [← HM.out] at hs
        have HS := Lib.hid hs
        clear hp hs
        go_wp2_with fail
        go_roundw
        case rel => exact ⟨j + 1, m + 1, by omega, by go_num, HS.out.symm, by go_num, HI2.out⟩
        case measure => simp [intOf]; omega
      | false =>
        have hs := cnt_no hp
        rw [← HM.out] at hs
        have HS := Lib.hid hs
        clear hp hs
        go_wp2_with fail
        go_roundw
        case rel => exact ⟨j + 1, m, by omega, by go_num, HS.out.symm, by go_num, HI2.out⟩
        case measure => simp [intOf]; omega
    · obtain rfl : j = N := by omega
      have hw : IntKind.i64.wrap (2 * (m : Int)) = 2 * (m : Int) := by rw [IntKind.wrap_i64]; omega
      go_wp2
      go_ret
      exact ⟨ret_of (congrArg Value.bool (by rw [← HM.out])), HI.out⟩
end Go.Proofs.Ytkoidphhlfjlhaa
