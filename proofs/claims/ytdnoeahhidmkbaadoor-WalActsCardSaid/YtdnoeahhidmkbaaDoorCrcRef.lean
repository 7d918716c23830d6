/- The document's Get and Put, walked: they come to the plain ones, too. -/
import Derived.Test.YtdnoeahhidmkbaaDoorCrcGet
namespace Go.Proofs.YtdnoeahhidmkbaaDoor
open Go Go.RowKit
set_option maxRecDepth 100000

theorem rget_none (s : ByteArray) (w : World) (h : s.size = 0) : Calls Tryd.prog 75 #[.string s] w (GetPost s w) := by
  have hl := crcm.size_len s
  have hnil : s.data.toList = [] := List.eq_nil_of_length_eq_zero (by omega)
  have hfin : crcm.get s.data.toList = ([], 0, 3) := by rw [hnil]; rfl
  have hne : s.toList.isEmpty = true := by rw [ByteArray.toList_eq, hnil]; rfl
  have Hfin := Lib.hid hfin
  have Hh := Lib.hid h
  clear hl hfin hnil h
  go_enter Tryd.func75, Tryd.ntmps75
  go_wp2_with fail
  go_ret3
  unfold GetPost
  rw [Hfin.out]
  exact ⟨rfl, Below.refl _ _⟩
theorem rget_little (s : ByteArray) (w : World) (h : 0 < s.size) (h6 : s.size < 6) : Calls Tryd.prog 75 #[.string s] w (GetPost s w) := by
  have hl := crcm.size_len s
  have hfin : crcm.get s.data.toList = ([], 0, 10) := by
    unfold crcm.get
    rw [if_neg (by intro e; rw [e] at hl; simp at hl; omega), if_pos (by omega)]
  have hne := not_empty s h
  have Hfin := Lib.hid hfin
  clear hl hfin
  go_enter Tryd.func75, Tryd.ntmps75
  go_wp2_with fail
  go_ret3
  unfold GetPost
  rw [Hfin.out]
  exact ⟨rfl, Below.refl _ _⟩

set_option maxHeartbeats 1000000 in
theorem rget_cut (s : ByteArray) (w : World) (h6 : 6 ≤ s.size) (hs : s.size ≤ maxLen) (hn : s.size < 6 + crcm.said s.data.toList) :
    Calls Tryd.prog 75 #[.string s] w (GetPost s w) := by
  have hl := crcm.size_len s
  have hfin : crcm.get s.data.toList = ([], 0, 10) := by
    unfold crcm.get
    rw [if_neg (by intro e; rw [e] at hl; simp at hl; omega), if_neg (by omega), if_pos (by omega)]
  have Hfin := Lib.hid hfin
  clear hl hfin
  unfold maxLen at hs
  have g0 := byte_at s 0 (by omega)
  have g1 := byte_at s 1 (by omega)
  have hne := not_empty s (by omega)
  unfold crcm.said at hn
  obtain ⟨b0, hb0⟩ : ∃ b : UInt8, s.data.toList.getD 0 0 = b := ⟨_, rfl⟩
  obtain ⟨b1, hb1⟩ : ∃ b : UInt8, s.data.toList.getD 1 0 = b := ⟨_, rfl⟩
  rw [hb0] at g0 hn
  rw [hb1] at g1 hn
  clear hb0 hb1
  have l0 : b0.toNat < 256 := b0.toNat_lt
  have l1 : b1.toNat < 256 := b1.toNat_lt
  have p1 : (1 : Int) < (s.size : Int) := by omega
  go_enter Tryd.func75, Tryd.ntmps75
  go_wp2_with fail
  go_quiet (fail)
  go_wp2_with fail
  go_ret3
  unfold GetPost
  rw [Hfin.out]
  exact ⟨rfl, below_drewN (Below.refl _ _) _⟩

set_option maxHeartbeats 2000000 in
theorem rget_full (s : ByteArray) (w : World) (h6 : 6 ≤ s.size) (hs : s.size ≤ maxLen) (hn : 6 + crcm.said s.data.toList ≤ s.size) :
    Calls Tryd.prog 75 #[.string s] w (GetPost s w) := by
  have hl := crcm.size_len s
  have hfin : crcm.get s.data.toList = if crcm.fourB (crcm.sum (s.data.toList.take 2 ++ (s.data.toList.drop 6).take (crcm.said s.data.toList))) = (s.data.toList.drop 2).take 4 then ((s.data.toList.drop 6).take (crcm.said s.data.toList), 6 + crcm.said s.data.toList, 0) else ([], 0, 20) := by
    unfold crcm.get
    rw [if_neg (by intro e; rw [e] at hl; simp at hl; omega), if_neg (by omega), if_neg (by omega)]
  clear hl
  unfold maxLen at hs
  have g0 := byte_at s 0 (by omega)
  have g1 := byte_at s 1 (by omega)
  have hne := not_empty s (by omega)
  obtain ⟨N, hN⟩ : ∃ N, crcm.said s.data.toList = N := ⟨_, rfl⟩
  rw [hN] at hfin hn
  unfold crcm.said at hN
  obtain ⟨b0, hb0⟩ : ∃ b : UInt8, s.data.toList.getD 0 0 = b := ⟨_, rfl⟩
  obtain ⟨b1, hb1⟩ : ∃ b : UInt8, s.data.toList.getD 1 0 = b := ⟨_, rfl⟩
  rw [hb0] at g0 hN
  rw [hb1] at g1 hN
  clear hb0 hb1
  have l0 : b0.toNat < 256 := b0.toNat_lt
  have l1 : b1.toNat < 256 := b1.toNat_lt
  have p1 : (1 : Int) < (s.size : Int) := by omega
  have he : (b0.toNat : Int) + 256 * (b1.toNat : Int) = (N : Int) := by omega
  have hN2 : N ≤ 65535 := by omega
  clear hN
  have hcat : (s.extract 0 2 ++ s.extract 6 (6 + N)).size ≤ maxLen := by
    unfold maxLen
    rw [ByteArray.size_append]
    have h1 := crcm.size_len (s.extract 0 2)
    have h2 := crcm.size_len (s.extract 6 (6 + N))
    rw [Lib.extract_data, List.length_take] at h1 h2
    omega
  have hcatd : (s.extract 0 2 ++ s.extract 6 (6 + N)).data.toList = s.data.toList.take 2 ++ (s.data.toList.drop 6).take N := by
    have h1 := Lib.extract_data s 0 2
    have h2 := Lib.extract_data s 6 (6 + N)
    rw [show 6 + N - 6 = N from by omega] at h2
    rw [ByteArray.data_append, Array.toList_append, h1, h2]
    rfl
  have h26 : (s.extract 2 6).toList = (s.data.toList.drop 2).take 4 := by rw [ByteArray.toList_eq, Lib.extract_data]
  obtain ⟨L, hL⟩ : ∃ L, s.data.toList.take 2 ++ (s.data.toList.drop 6).take N = L := ⟨_, rfl⟩
  rw [hL] at hcatd hfin
  obtain ⟨F, hF⟩ : ∃ F, (s.data.toList.drop 2).take 4 = F := ⟨_, rfl⟩
  rw [hF] at h26 hfin
  have hs4 := crcm.more_lt 0 L
  have hLs : L.length ≤ maxLen := by
    rw [← hcatd, crcm.size_len]; exact hcat
  have hadd : ∀ W, (Op.stringOp .add (s.extract 0 2) (s.extract 6 (6 + N))).run Tryd.prog W = .ok (.string (crcm.mk L)) W := fun W => by
    rw [run_string_add_sum _ _ _ (by rw [ByteArray.size_append] at hcat; unfold maxLen at hcat; omega), ← hcatd, crcm.mk_of]
  clear hcatd hL hF hcat
  obtain ⟨en, hen⟩ : ∃ en, 6 + N = en := ⟨_, rfl⟩
  have heni : (6 : Int) + (N : Int) = (en : Int) := by omega
  have he2 : en ≤ s.size := by omega
  have he3 : 6 ≤ en := by omega
  rw [hen] at hadd hfin
  have hwr : IntKind.i64.wrap (6 + (N : Int)) = (en : Int) := by rw [IntWalk.i64_in _ (by omega)]; exact heni
  have hwr2 : IntKind.i64.wrap (en : Int) = (en : Int) := IntWalk.i64_in _ (by omega)
  clear hen hn
  have hmk : s.extract 6 en = crcm.mk ((s.data.toList.drop 6).take N) := by rw [Lib.extract_eq, show en - 6 = N from by omega]; rfl
  have Hmk := Lib.hid hmk
  have hml : (crcm.mk (crcm.fourB (crcm.sum L))).toList = crcm.fourB (crcm.sum L) := by rw [ByteArray.toList_eq]; rfl
  clear hmk
  by_cases hX : crcm.fourB (crcm.sum L) = F
  · rw [if_pos hX] at hfin
    have hb : (crcm.fourB (crcm.sum L) == F) = true := by rw [beq_iff_eq]; exact hX
    have Hfin := Lib.hid hfin
    clear hX hfin
    go_enter Tryd.func75, Tryd.ntmps75
    go_wp2_with fail
    go_quiet (fail)
    go_wp2_with fail
    go_region_with (first | (go_at_call 97; refine (rsum_any _ _ ?_).mono ?_; rw [crcm.mk_size]; exact hLs; rw [crcm.mk_toList]; rintro e w2 ⟨rfl, rfl⟩) | (go_at_call 96; refine (four_any _ _ ?_).mono ?_; exact crcm.more_lt _ _; rintro e w3 ⟨rfl, hb3⟩))
    all_goals (go_wp2_with fail)
    all_goals go_ret3
    all_goals unfold GetPost
    all_goals rw [Hfin.out, Hmk.out]
    all_goals exact ⟨rfl, below_of_heap hb3 rfl rfl rfl rfl⟩
  · rw [if_neg hX] at hfin
    have hb : (crcm.fourB (crcm.sum L) == F) = false := by rw [beq_eq_false_iff_ne]; exact hX
    have Hfin := Lib.hid hfin
    clear hX hfin
    go_enter Tryd.func75, Tryd.ntmps75
    go_wp2_with fail
    go_quiet (fail)
    go_wp2_with fail
    go_region_with (first | (go_at_call 97; refine (rsum_any _ _ ?_).mono ?_; rw [crcm.mk_size]; exact hLs; rw [crcm.mk_toList]; rintro e w2 ⟨rfl, rfl⟩) | (go_at_call 96; refine (four_any _ _ ?_).mono ?_; exact crcm.more_lt _ _; rintro e w3 ⟨rfl, hb3⟩))
    all_goals (go_wp2_with fail)
    all_goals go_ret3
    all_goals unfold GetPost
    all_goals rw [Hfin.out]
    all_goals exact ⟨rfl, below_of_heap hb3 rfl rfl rfl rfl⟩

theorem rget_any (s : ByteArray) (w : World) (hs : s.size ≤ maxLen) : Calls Tryd.prog 75 #[.string s] w (GetPost s w) := by
  by_cases h0 : s.size = 0
  · exact rget_none s w h0
  · by_cases h6 : s.size < 6
    · exact rget_little s w (by omega) h6
    · by_cases hn : 6 + crcm.said s.data.toList ≤ s.size
      · exact rget_full s w (by omega) hs hn
      · exact rget_cut s w (by omega) hs (by omega)

set_option maxHeartbeats 1000000 in
theorem rput_fits (s : ByteArray) (w : World) (hs : s.size ≤ 65535) :
    Calls Tryd.prog 80 #[.string s] w fun e w' => e = .returned (.tuple #[.string (crcm.mk (crcm.put s.data.toList).1), .int .i64 ((crcm.put s.data.toList).2 : Nat)]) ∧ Below w.heap.size w w' := by
  have h2 := fun w => run_str2 (P := Tryd.prog) 37 9 5 Tryd.underlying37 Tryd.underlying5 Tryd.underlying9 ((s.size : Int) % 256) ((s.size : Int) / 256) (by omega) (by omega) w
  rw [le2_mk] at h2
  have hb1 : ∀ o, Below w.heap.size w (w.alloc o) := fun o => (Below.refl _ w).alloc (Nat.le_refl _) o
  have hl := crcm.size_len s
  have hcat : crcm.mk (crcm.le2 s.size) ++ s = crcm.mk (crcm.le2 s.size ++ s.data.toList) := by
    conv => lhs; rw [← crcm.mk_of s]
    rw [crcm.mk_append, crcm.mk_size, hl]
  obtain ⟨L, hL⟩ : ∃ L, crcm.le2 s.size ++ s.data.toList = L := ⟨_, rfl⟩
  have hLl : L.length ≤ 100000 := by rw [← hL, List.length_append, crcm.le2_len]; omega
  have z2 : (crcm.mk (crcm.le2 s.size)).size ≤ 100 := by rw [crcm.mk_size, crcm.le2_len]; omega
  have hadd : ∀ W, (Op.stringOp .add (crcm.mk (crcm.le2 s.size)) s).run Tryd.prog W = .ok (.string (crcm.mk L)) W := fun W => by
    rw [run_string_add_sum _ _ _ (by omega), hcat, hL]
  have z4 : (crcm.mk (crcm.fourB (crcm.sum L))).size ≤ 100 := by rw [crcm.mk_size, crcm.fourB_len]; omega
  have hfin : crcm.put s.data.toList = (crcm.le2 s.size ++ crcm.fourB (crcm.sum L) ++ s.data.toList, 0) := by
    unfold crcm.put crcm.body
    rw [if_neg (by omega), hl, hL]
  have Hfin := Lib.hid hfin
  clear hfin hcat hL hl
  have hs4 := crcm.more_lt 0 L
  go_enter Tryd.func80, Tryd.ntmps80
  go_wp2_with (first | (go_at_call 97; refine (rsum_any _ _ ?_).mono ?_; (rw [crcm.mk_size]; unfold maxLen; omega); rw [crcm.mk_toList]; rintro e w2 ⟨rfl, rfl⟩) | (go_at_call 96; refine (four_any _ _ ?_).mono ?_; exact hs4; rintro e w3 ⟨rfl, hb3⟩))
  go_ret2
  rw [Hfin.out]
  refine ⟨?_, (hb1 _).trans (hb3.mono (by simp))⟩
  rw [← crcm.mk_append, ← crcm.mk_append, crcm.mk_of]
  rfl
theorem rput_wide (s : ByteArray) (w : World) (hs : 65535 < s.size) (hs2 : s.size ≤ maxLen) :
    Calls Tryd.prog 80 #[.string s] w fun e w' => e = .returned (.tuple #[.string (crcm.mk (crcm.put s.data.toList).1), .int .i64 ((crcm.put s.data.toList).2 : Nat)]) ∧ Below w.heap.size w w' := by
  have hl := crcm.size_len s
  have hfin : crcm.put s.data.toList = ([], 71) := by
    unfold crcm.put
    rw [if_pos (by omega)]
  rw [hfin]
  clear hfin hl
  unfold maxLen at hs2
  go_enter Tryd.func80, Tryd.ntmps80
  go_wp2_with fail
  go_ret2
  exact ⟨rfl, Below.refl _ _⟩
theorem rput_any (s : ByteArray) (w : World) (hs : s.size ≤ maxLen) :
    Calls Tryd.prog 80 #[.string s] w fun e w' => e = .returned (.tuple #[.string (crcm.mk (crcm.put s.data.toList).1), .int .i64 ((crcm.put s.data.toList).2 : Nat)]) ∧ Below w.heap.size w w' := by
  by_cases h : s.size ≤ 65535
  · exact rput_fits s w h
  · exact rput_wide s w (by omega) hs
end Go.Proofs.YtdnoeahhidmkbaaDoor
