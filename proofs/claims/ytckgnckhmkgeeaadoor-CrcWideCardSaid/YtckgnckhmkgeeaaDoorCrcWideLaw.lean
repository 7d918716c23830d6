/- CrcWide walked: whatever comes in, it returns true. -/
import Derived.Test.YtckgnckhmkgeeaaDoorCrcShown
namespace Go.Proofs.YtckgnckhmkgeeaaDoor
open Go Go.RowKit

theorem info_u8 : (Tryd.prog.info? 5).map (fun i => (i.zero, i.size, i.bytes)) = some (some (.int .u8 0), 1, 1) := by kernel_rfl

/-- a row of noughts, and the string of them -/
theorem noughts (m : Nat) (hm : m ≤ 1000000) : ∃ (Z : World → Obj) (s : ByteArray), s.size = m ∧
    (∀ W : World, (Instr.makeSlice 31 (.int .i64 (m : Int)) (.int .i64 (m : Int))).run Tryd.prog W = .ok (.slice (some ⟨W.heap.size, 0, none⟩) m m) (W.alloc (Z W))) ∧
    (∀ W : World, (convert 31 9 (.slice (some ⟨W.heap.size, 0, none⟩) m m)).run Tryd.prog (W.alloc (Z W)) = .ok (.string s) (W.alloc (Z W))) := by
  obtain ⟨i0, hi, hz0, hz1, hz2⟩ := info_parts info_u8
  refine ⟨fun _ => .cells (madeCells #[.int .u8 0] m) 5, crcm.mk (List.replicate m 0), by rw [crcm.mk_size, List.length_replicate], fun W => ?_, fun W => ?_⟩
  · have h := run_make (P := Tryd.prog) W 31 5 i0 (.int .u8 0) Tryd.underlying31 hi hz0 .i64 .i64 (m : Int) (m : Int) (by omega) (Int.le_refl _) (by rw [hz2]; omega) (by omega)
    rw [hz1, Nat.mul_one, Int.toNat_natCast] at h
    exact h
  · have h := run_convert_bytes_back (P := Tryd.prog) (W.alloc (.cells (madeCells #[.int .u8 0] m) 5)) 31 9 5 ⟨W.heap.size, 0, none⟩ m (List.replicate m 0) Tryd.underlying31 Tryd.underlying5 Tryd.underlying9 (by
      intro j hj
      rw [List.length_replicate] at hj
      have hc : (madeCells #[Value.int .u8 0] m)[j]? = some (.int .u8 0) := by
        rw [← Array.getElem?_toList, toList_madeCells_one, List.getElem?_replicate, if_pos hj]
      have : (W.alloc (.cells (madeCells #[Value.int .u8 0] m) 5)).cell? ((⟨W.heap.size, 0, none⟩ : Addr).add j) = (madeCells #[Value.int .u8 0] m)[j]? := by
        rw [show (⟨W.heap.size, 0, none⟩ : Addr).add j = ⟨W.heap.size, j, none⟩ from by unfold Addr.add; split <;> simp_all]
        exact cell_of_row _ _ _ _ _ (0, 0) (heap_alloc_new W _)
      rw [this, hc, List.getElem_replicate]
      rfl)
    rw [List.length_replicate] at h
    exact h

set_option maxHeartbeats 4000000 in
theorem wide_law (x y : Nat) (w : World) (hx : x < 65536) (hy : y < 256) (ht : TabAt w) :
    Calls Tryd.prog 6 #[.int .u16 (x : Int), .int .u8 (y : Int)] w fun e w' => e = .returned (.bool true) ∧ Below w.heap.size w w' := by
  obtain ⟨m, hmm⟩ : ∃ m : Nat, m = 65700 := ⟨_, rfl⟩
  obtain ⟨Z, s, hs, hmk, hcv⟩ := noughts m (by omega)
  have hmi : (m : Int) = 65700 := by omega
  rw [hmi] at hmk
  obtain ⟨kk, hkk⟩ : ∃ kk, 65400 + x % 136 + y % 100 = kk := ⟨_, rfl⟩
  have hki : (65400 : Int) + (x : Int) % 136 + (y : Int) % 100 = (kk : Int) := by omega
  have hk1 : 65400 ≤ kk := by omega
  have hk2 : kk ≤ s.size := by omega
  have hk3 : kk ≤ 65634 := by omega
  have hb0 : ∀ W : World, Below W.heap.size W (W.alloc (Z W)) := fun W => (Below.refl _ _).alloc (Nat.le_refl _) _
  have ht0 : TabAt (w.alloc (Z w)) := ht.below (hb0 w) ht.1
  have hD : (s.extract 0 kk).data.toList.length = kk := by
    rw [Lib.extract_data, List.length_take, List.length_drop, crcm.size_len]; omega
  have hDs : (s.extract 0 kk).size = kk := by rw [← crcm.size_len]; exact hD
  clear hmm hmi hkk hs
  obtain ⟨D, hDe⟩ : ∃ D, (s.extract 0 kk).data.toList = D := ⟨_, rfl⟩
  rw [hDe] at hD
  have HDe := Lib.hid hDe
  have HDs := Lib.hid hDs
  have HD := Lib.hid hD
  clear hDe hDs hD
  by_cases hk : 65535 < kk
  · have hput : crcm.put D = ([], 71) := by unfold crcm.put; rw [if_pos (by rw [HD.out]; omega)]
    have Hput := Lib.hid hput
    clear hput
    go_enter Tryd.func6, Tryd.ntmps6
    go_wp2_with fail
    refine (put_wide _ _ (by rw [HDs.out]; exact hk) (by rw [HDs.out]; unfold maxLen; omega)).mono ?_
    rw [HDe.out, Hput.out]
    rintro e w1 ⟨rfl, hb1⟩
    have hmt : (crcm.mk []).toList = [] := by rw [ByteArray.toList_eq]; rfl
    have ht1 := ht0.below hb1 ht0.1
    go_wp2_with (go_at_call 9; refine (shown_any _ ht1).mono ?_; rintro e w3 ⟨rfl, hb3⟩)
    go_ret
    exact ⟨rfl, ((hb0 w).trans (hb1.mono (hb0 w).size)).trans (hb3.mono (Nat.le_trans (hb0 w).size hb1.size))⟩
  · have hput : crcm.put D = (crcm.body D, 0) := by unfold crcm.put; rw [if_neg (by rw [HD.out]; omega)]
    have Hput := Lib.hid hput
    have hbl : (crcm.body D).length = 6 + kk := by rw [crcm.body_len, HD.out]
    have hget := crcm.get_body D [] (by rw [HD.out]; omega)
    rw [List.append_nil, HD.out] at hget
    clear hput
    obtain ⟨B, hB⟩ : ∃ B, crcm.body D = B := ⟨_, rfl⟩
    rw [hB] at Hput hbl hget
    have Hget := Lib.hid hget
    have hsz : (crcm.mk B).size ≤ maxLen := by rw [crcm.mk_size, hbl]; unfold maxLen; omega
    have hszi : ((crcm.mk B).size : Int) = (kk : Int) + 6 := by rw [crcm.mk_size, hbl]; omega
    have hszd : ((crcm.mk D).size : Int) = (kk : Int) := by rw [crcm.mk_size, HD.out]
    have Hszi := Lib.hid hszi
    have Hszd := Lib.hid hszd
    have hadd : ((6 + kk : Nat) : Int) = (kk : Int) + 6 := by omega
    have Hadd := Lib.hid hadd
    clear hB hget hbl hszi hszd hadd
    go_enter Tryd.func6, Tryd.ntmps6
    go_wp2_with fail
    refine (put_fits _ _ (by rw [HDs.out]; omega) ht0).mono ?_
    rw [HDe.out, Hput.out]
    rintro e w1 ⟨rfl, hb1⟩
    have ht1 := ht0.below hb1 ht0.1
    go_wp2_with fail
    refine (get_any _ _ hsz ht1).mono ?_
    unfold GetPost
    rw [crcm.mk_toList, Hget.out, Hadd.out]
    rintro e w2 ⟨rfl, hb2⟩
    have ht2 := ht1.below hb2 ht1.1
    have hszi := Hszi.out
    have hszd := Hszd.out
    go_wp2_with (go_at_call 9; refine (shown_any _ ht2).mono ?_; rintro e w3 ⟨rfl, hb3⟩)
    go_ret
    exact ⟨rfl, (((hb0 w).trans (hb1.mono (hb0 w).size)).trans (hb2.mono (Nat.le_trans (hb0 w).size hb1.size))).trans (hb3.mono (Nat.le_trans (hb0 w).size (Nat.le_trans hb1.size hb2.size)))⟩
end Go.Proofs.YtckgnckhmkgeeaaDoor
