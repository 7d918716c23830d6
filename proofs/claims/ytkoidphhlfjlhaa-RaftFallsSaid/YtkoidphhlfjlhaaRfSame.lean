/- Two states compared: walked. -/
import Derived.Test.YtkoidphhlfjlhaaRfIts
import Derived.BigQuiet
import Derived.Deep.QuietTactic
namespace Go.Proofs.Ytkoidphhlfjlhaa
open Go Go.RowKit

theorem ents_ext {la lb : List rl.Ent} (hl : la.length = lb.length) (h : ∀ k, k < la.length → la.getD k rl.e0 = lb.getD k rl.e0) : la = lb := by
  apply List.ext_getElem hl
  intro k h1 h2
  have := h k h1
  rwa [List.getD_eq_getElem?_getD, List.getD_eq_getElem?_getD, List.getElem?_eq_getElem h1, List.getElem?_eq_getElem h2] at this

theorem below_two (w : World) (vs us : List Value) (t u : TypeId) : Below w.heap.size w ((w.alloc (.cells vs.toArray t)).alloc (.cells us.toArray u)) :=
  ((Below.refl _ w).alloc (Nat.le_refl _) _).alloc (by simp) _
set_option maxHeartbeats 2000000 in
theorem same_eq (T : Nat) (V : Int) (A B : Option Addr) (c d n : Nat) (la lb : List rl.Ent) (w : World) (hn : la.length = n) (hm : lb.length = n) (hl : n ≤ 100000)
    (hA : ∀ k, k < n → ∃ b o, A = some ⟨b, o, none⟩ ∧ EntsAt w b o la) (hB : ∀ k, k < n → ∃ b o, B = some ⟨b, o, none⟩ ∧ EntsAt w b o lb) :
    Calls Try.prog 25 #[stV T V (.slice A n c), stV T V (.slice B n d)] w fun e w' => e = .returned (.bool (decide (la = lb))) ∧ Below w.heap.size w w' := by
  have hb := below_two w [.int .u64 (T : Int), .int .i64 V, .slice A n c] [.int .u64 (T : Int), .int .i64 V, .slice B n d] 42 42
  have ba := (Blk.new w [.int .u64 (T : Int), .int .i64 V, .slice A n c] 42).alloc (.cells #[.int .u64 (T : Int), .int .i64 V, .slice B n d] 42)
  have bb := Blk.new (w.alloc (.cells #[.int .u64 (T : Int), .int .i64 V, .slice A n c] 42)) [.int .u64 (T : Int), .int .i64 V, .slice B n d] 42
  simp only [World.size_alloc] at bb
  have a0 := ba.cell 0 _ rfl
  have a1 := ba.cell 1 _ rfl
  have a2 := ba.cell 2 _ rfl
  have b0 := bb.cell 0 _ rfl
  have b1 := bb.cell 1 _ rfl
  have b2 := bb.cell 2 _ rfl
  have e1 : ((T : Int) != (T : Int)) = false := by simp
  have e2 : (V != V) = false := by simp
  have e3 : ((n : Int) != (n : Int)) = false := by simp
  have hgn : ∀ k, k < n → la.getD k rl.e0 = lb.getD k rl.e0 ∨ la ≠ lb := fun k _ => by
    by_cases h : la = lb
    · exact .inl (by rw [h])
    · exact .inr h
  have HGN := Lib.hid hgn
  have Hb := Lib.hid hb
  have HA := Lib.hid hA
  have HB := Lib.hid hB
  have Hn := Lib.hid hn
  have Hm := Lib.hid hm
  clear ba bb hA hB hn hm hb hgn
  unfold stV
  go_enter Try.func25, Try.ntmps25
  go_wp2
  obtain ⟨W, hW⟩ : ∃ W, (w.alloc (.cells #[.int .u64 (T : Int), .int .i64 V, .slice A n c] 42)).alloc (.cells #[.int .u64 (T : Int), .int .i64 V, .slice B n d] 42) = W := ⟨_, rfl⟩
  have hbw := Hb.out
  simp only [List.toArray] at hbw
  rw [hW] at a2 b2 hbw ⊢
  have HBW := Lib.hid hbw
  clear hW a0 a1 b0 b1 hbw
  go_loopw [5] (fun i wr => ∃ k q : Nat, k ≤ n ∧ i = .int .i64 k ∧ W.drewN q = wr ∧ ∀ j, j < k → la.getD j rl.e0 = lb.getD j rl.e0) (fun i _ => n - (intOf i).toNat)
  case atStart => exact ⟨0, 0, Nat.zero_le _, rfl, rfl, fun j h => by omega⟩
  case round =>
    obtain ⟨k, q, hk, rfl, rfl, hle⟩ := hrel
    have HL := Lib.hid hle
    clear hle
    by_cases hlt : k < n
    · obtain ⟨b, o, rfl, hA⟩ := HA.out k hlt
      obtain ⟨b', o', rfl, hB⟩ := HB.out k hlt
      obtain ⟨x0, x1⟩ := hA k (by rw [Hn.out]; exact hlt)
      obtain ⟨y0, y1⟩ := hB k (by rw [Hm.out]; exact hlt)
      have x0' := cell_later HBW.out x0
      have x1' := cell_later HBW.out x1
      have y0' := cell_later HBW.out y0
      have y1' := cell_later HBW.out y1
      have hor := HGN.out k hlt
      obtain ⟨x, hx⟩ : ∃ x, la.getD k rl.e0 = x := ⟨_, rfl⟩
      obtain ⟨y, hy⟩ : ∃ x, lb.getD k rl.e0 = x := ⟨_, rfl⟩
      rw [hx] at x0' x1' hor
      rw [hy] at y0' y1' hor
      have HX := Lib.hid hx
      have HY := Lib.hid hy
      have HO := Lib.hid hor
      clear hA hB x0 x1 y0 y1 hx hy hor
      have hi : (k : Int) < (n : Int) := by omega
      by_cases hxy : x = y
      · subst hxy
        have f1 : ((x.1 : Int) == (x.1 : Int)) = true := by simp
        have f2 : (x.2 == x.2) = true := by simp
        have hml : (crcm.mk x.2).toList = x.2 := by rw [ByteArray.toList_eq]; rfl
        go_wp2
        go_quiet (fail)
        go_wp2
        go_roundw
        case rel => exact ⟨k + 1, _, by omega, by go_num, rfl, fun j hj => by
          rcases Nat.lt_succ_iff_lt_or_eq.1 hj with h | rfl
          · exact HL.out j h
          · rw [HX.out, HY.out]⟩
        case measure => simp [intOf]; omega
      · have hno : decide (la = lb) = false := by
          rw [decide_eq_false_iff_not]
          rcases HO.out with h | h
          · exact absurd h hxy
          · exact h
        have HNO := Lib.hid hno
        clear hno
        by_cases h1 : x.1 = y.1
        · have h2 : ¬ x.2 = y.2 := fun h => hxy (Prod.ext h1 h)
          have f1 : ((x.1 : Int) == (y.1 : Int)) = true := by rw [h1]; simp
          have f2 : (x.2 == y.2) = false := by rw [beq_eq_false_iff_ne]; exact h2
          have hml : (crcm.mk x.2).toList = x.2 := by rw [ByteArray.toList_eq]; rfl
          have hml2 : (crcm.mk y.2).toList = y.2 := by rw [ByteArray.toList_eq]; rfl
          clear h1 h2 hxy
          go_wp2
          go_quiet (fail)
          go_wp2
          go_ret
          exact ⟨by rw [HNO.out]; rfl, below_drewN (below_drewN HBW.out _) _⟩
        · have f1 : ((x.1 : Int) == (y.1 : Int)) = false := by rw [beq_eq_false_iff_ne]; omega
          clear h1 hxy
          go_wp2
          go_quiet (fail)
          go_wp2
          go_ret
          exact ⟨by rw [HNO.out]; rfl, below_drewN (below_drewN HBW.out _) _⟩
    · have hyes : decide (la = lb) = true := by
        rw [decide_eq_true_iff]
        exact ents_ext (by rw [Hn.out, Hm.out]) (fun j hj => HL.out j (by rw [Hn.out] at hj; omega))
      have HY := Lib.hid hyes
      clear hyes
      go_wp2
      go_ret
      exact ⟨by rw [HY.out]; rfl, below_drewN HBW.out _⟩

set_option maxHeartbeats 2000000 in
theorem same_any (T T' : Nat) (V V' : Int) (u v : Value) (la lb : List rl.Ent) (w : World) (hu : Ents w u la) (hv : Ents w v lb) (hla : la.length ≤ 100000) (_hlb : lb.length ≤ 100000) :
    Calls Try.prog 25 #[stV T V u, stV T' V' v] w fun e w' => e = .returned (.bool (decide (T = T' ∧ V = V' ∧ la = lb))) ∧ Below w.heap.size w w' := by
  obtain ⟨A, c, rfl, hc, _, h0⟩ := hu
  obtain ⟨B, d, rfl, hcd, _, h1⟩ := hv
  have hb := below_two w [.int .u64 (T : Int), .int .i64 V, .slice A la.length c] [.int .u64 (T' : Int), .int .i64 V', .slice B lb.length d] 42 42
  have ba := (Blk.new w [.int .u64 (T : Int), .int .i64 V, .slice A la.length c] 42).alloc (.cells #[.int .u64 (T' : Int), .int .i64 V', .slice B lb.length d] 42)
  have bb := Blk.new (w.alloc (.cells #[.int .u64 (T : Int), .int .i64 V, .slice A la.length c] 42)) [.int .u64 (T' : Int), .int .i64 V', .slice B lb.length d] 42
  simp only [World.size_alloc] at bb
  have a0 := ba.cell 0 _ rfl
  have a1 := ba.cell 1 _ rfl
  have a2 := ba.cell 2 _ rfl
  have b0 := bb.cell 0 _ rfl
  have b1 := bb.cell 1 _ rfl
  have b2 := bb.cell 2 _ rfl
  obtain ⟨W, hW⟩ : ∃ W, (w.alloc (.cells #[.int .u64 (T : Int), .int .i64 V, .slice A la.length c] 42)).alloc (.cells #[.int .u64 (T' : Int), .int .i64 V', .slice B lb.length d] 42) = W := ⟨_, rfl⟩
  by_cases hT : T = T'
  · by_cases hV : V = V'
    · by_cases hL : la.length = lb.length
      · subst hT
        subst hV
        have hd : decide (T = T ∧ V = V ∧ la = lb) = decide (la = lb) := by simp
        rw [hd]
        rw [← hL] at h1 hcd ⊢
        exact same_eq T V A B c d la.length la lb w rfl hL.symm hla (fun k hk => h0 (by omega)) (fun k hk => h1 (by omega))
      · have hd : decide (T = T' ∧ V = V' ∧ la = lb) = false := by rw [decide_eq_false_iff_not]; exact fun h => hL (by rw [h.2.2])
        rw [hd]
        have e1 : ((T : Int) != (T' : Int)) = false := by rw [hT]; simp
        have e2 : (V != V') = false := by rw [hV]; simp
        have e3 : ((la.length : Int) != (lb.length : Int)) = true := by rw [bne_iff_ne]; omega
        clear hd ba bb h0 h1 hW hT hV
        unfold stV; go_enter Try.func25, Try.ntmps25
        go_wp2
        go_ret
        exact ⟨rfl, hb⟩
    · have hd : decide (T = T' ∧ V = V' ∧ la = lb) = false := by rw [decide_eq_false_iff_not]; exact fun h => hV h.2.1
      rw [hd]
      have e1 : ((T : Int) != (T' : Int)) = false := by rw [hT]; simp
      have e2 : (V != V') = true := by rw [bne_iff_ne]; exact hV
      clear hd ba bb h0 h1 hW hT
      unfold stV; go_enter Try.func25, Try.ntmps25
      go_wp2
      go_ret
      exact ⟨rfl, hb⟩
  · have hd : decide (T = T' ∧ V = V' ∧ la = lb) = false := by rw [decide_eq_false_iff_not]; exact fun h => hT h.1
    rw [hd]
    have e1 : ((T : Int) != (T' : Int)) = true := by rw [bne_iff_ne]; omega
    clear hd ba bb h0 h1 hW
    unfold stV; go_enter Try.func25, Try.ntmps25
    go_wp2
    go_ret
    exact ⟨rfl, hb⟩
end Go.Proofs.Ytkoidphhlfjlhaa
