/- RaftlogTells walked: whatever comes in, it returns true. -/
import Derived.Test.YtgaamknkigdoeaaRlMatchesLaw
namespace Go.Proofs.Ytgaamknkigdoeaa
open Go Go.RowKit

namespace rl
theorem match_len (ls l : List Ent) (p t : Nat) (h1 : ls.length ≤ 60) (h2 : l.length ≤ 60) : (match_ ls p t l).1.length ≤ 120 := by
  unfold match_
  split
  · dsimp only
    split
    · rw [List.length_append, List.length_take, List.length_drop]; omega
    · omega
  · dsimp only; omega
end rl
theorem field_L (A : Option Addr) (n c : Nat) (w : World) : (Instr.field 38 (.agg #[.int .u64 0, .int .i64 0, .slice A n c]) 2).run Try.prog w = .ok (.slice A n c) w := by kernel_rfl
set_option maxRecDepth 100000 in
set_option maxHeartbeats 4000000 in
theorem rtells_law (T : Nat) (V : Int) (v lv : Value) (i tm prev pt : Nat) (ls l : List rl.Ent) (w : World) (hv : Ents w v ls) (hf : Fine ls) (hv2 : Ents w lv l) (hf2 : Fine l) (hi : i < 18446744073709551616) (hprev : prev < 18446744073709551616) :
    Calls Try.prog 5 #[stV T V v, .int .u64 (i : Int), .int .u64 (tm : Int), .int .u64 (prev : Int), .int .u64 (pt : Int), lv] w fun e w' => e = .returned (.bool true) ∧ Below w.heap.size w w' := by
  obtain ⟨A, c, hu⟩ := hv.form
  obtain ⟨n, hn⟩ : ∃ n, ls.length = n := ⟨_, rfl⟩
  rw [hn] at hu
  subst hu
  obtain ⟨A2, c2, hu2⟩ := hv2.form
  obtain ⟨n2, hn2⟩ : ∃ n, l.length = n := ⟨_, rfl⟩
  rw [hn2] at hu2
  subst hu2
  have hb := below_box w (.int .u64 (T : Int)) (.int .i64 V) (.slice A n c) 25
  have hx := HBox.new (T := T) (V := V) 25 hv
  obtain ⟨X, hX⟩ : ∃ X, w.alloc (.cells #[.int .u64 (T : Int), .int .i64 V, .slice A n c] 25) = X := ⟨_, rfl⟩
  rw [hX] at hb hx
  have e2 := hv2.below hb
  have c1 := bounded_any _ ls X hx.e hf
  have c2' := bounded_any _ l X e2 hf2
  have s0 := hx.c0
  have s1 := hx.c1
  have s2 := hx.c2
  have HX := Lib.hid hX
  have HB := Lib.hid hb
  have HS := Lib.hid hx
  have HL := Lib.hid e2
  have Hn := Lib.hid hn
  have Hn2 := Lib.hid hn2
  have Hf := Lib.hid hf
  have Hf2 := Lib.hid hf2
  have HI := Lib.hid hi
  have HP := Lib.hid hprev
  clear hX hb hx hv hv2 e2 hn hn2 hf hf2 hi hprev
  unfold stV
  by_cases ha : okEnts ls = true
  · rw [ha] at c1
    have C1 := Lib.hid c1
    by_cases hbb : okEnts l = true
    · rw [hbb] at c2'
      have C2 := Lib.hid c2'
      have hl1 := (ok_bounds ha).1
      have hl2 := (ok_bounds hbb).1
      have hml := rl.match_len ls l prev pt hl1 hl2
      rw [Hn.out] at hl1
      rw [Hn2.out] at hl2
      clear c1 c2' ha hbb
      obtain ⟨t, ht⟩ : ∃ t, rl.lastTerm ls = t := ⟨_, rfl⟩
      obtain ⟨ta, hta⟩ : ∃ ta, rl.termAt ls i = ta := ⟨_, rfl⟩
      obtain ⟨nw, hnw⟩ : ∃ nw, rl.newer ls tm i = nw := ⟨_, rfl⟩
      obtain ⟨m, hm⟩ : ∃ m, rl.match_ ls prev pt l = m := ⟨_, rfl⟩
      obtain ⟨ms, mn, me⟩ := m
      obtain ⟨tz, tb⟩ := ta
      obtain ⟨nm, hnm⟩ : ∃ nm, ms.length = nm := ⟨_, rfl⟩
      rw [hm] at hml
      dsimp only at hml
      rw [hnm] at hml
      have HNM := Lib.hid hnm
      have HT := Lib.hid ht
      have HTA := Lib.hid hta
      have HNW := Lib.hid hnw
      have HMM := Lib.hid hm
      clear ht hta hnw hm hnm
      have g1 : ((n : Int) == (n : Int)) = true := by simp
      have g2 : ((t : Int) == (t : Int)) = true := by simp
      have g3 : ((tz : Int) == (tz : Int)) = true := by simp
      have g4 : (tb == tb) = true := by simp
      have g5 : (nw == nw) = true := by simp
      have g6 : ((mn : Int) == (mn : Int)) = true := by simp
      have g7 : ((me : Int) == (me : Int)) = true := by simp
      go_enter Try.func5, Try.ntmps5
      go_wp2_with fail
      rw [HX.out]
      refine C1.out.mono ?_
      rintro e w1 ⟨rfl, rfl⟩
      go_wp2_with fail
      refine C2.out.mono ?_
      rintro e w1 ⟨rfl, rfl⟩
      go_wp2_with fail
      refine (shown_any _).mono ?_
      rintro e w1 ⟨rfl, hb1⟩
      clear C1 C2 HX
      have hb := HB.out.trans (hb1.mono HB.out.size)
      have hx := HS.out.below hb1
      have e2 := HL.out.below hb1
      clear s0 s1 s2 HB HS HL hb1
      have s0 := hx.c0
      have s1 := hx.c1
      have s2 := hx.c2
      have HB := Lib.hid hb
      have HS := Lib.hid hx
      have HL := Lib.hid e2
      clear hb hx e2
      go_wp2_with fail
      refine (last_any T V _ ls _ HS.out.e (by rw [Hn.out]; omega)).mono ?_
      rw [Hn.out, HT.out]
      rintro e w2 ⟨rfl, hb1⟩
      have hb := HB.out.trans (hb1.mono HB.out.size)
      have hx := HS.out.below hb1
      have e2 := HL.out.below hb1
      clear s0 s1 s2 HB HS HL hb1
      have s0 := hx.c0
      have s1 := hx.c1
      have s2 := hx.c2
      have HB := Lib.hid hb
      have HS := Lib.hid hx
      have HL := Lib.hid e2
      clear hb hx e2
      go_wp2_with fail
      refine (its_any T V _ ls _ HS.out.e (by rw [Hn.out]; omega)).mono ?_
      rintro e w3 ⟨u, rfl, hE, hb1⟩
      have hb := HB.out.trans (hb1.mono HB.out.size)
      have hx := HS.out.below hb1
      have e2 := HL.out.below hb1
      clear s0 s1 s2 HB HS HL hb1
      have s0 := hx.c0
      have s1 := hx.c1
      have s2 := hx.c2
      have HB := Lib.hid hb
      have HS := Lib.hid hx
      have HL := Lib.hid e2
      clear hb hx e2
      go_wp2_with fail
      refine (rlast_any T V _ ls _ hE (by rw [Hn.out]; omega)).mono ?_
      rw [Hn.out, HT.out]
      rintro e w4 ⟨rfl, hb1⟩
      clear hE
      have hb := HB.out.trans (hb1.mono HB.out.size)
      have hx := HS.out.below hb1
      have e2 := HL.out.below hb1
      clear s0 s1 s2 HB HS HL hb1
      have s0 := hx.c0
      have s1 := hx.c1
      have s2 := hx.c2
      have HB := Lib.hid hb
      have HS := Lib.hid hx
      have HL := Lib.hid e2
      clear hb hx e2
      go_wp2_with fail
      refine (termAt_any T V _ ls i _ HS.out.e (by rw [Hn.out]; omega) HI.out).mono ?_
      rw [HTA.out]
      rintro e w5 ⟨rfl, hb1⟩
      have hb := HB.out.trans (hb1.mono HB.out.size)
      have hx := HS.out.below hb1
      have e2 := HL.out.below hb1
      clear s0 s1 s2 HB HS HL hb1
      have s0 := hx.c0
      have s1 := hx.c1
      have s2 := hx.c2
      have HB := Lib.hid hb
      have HS := Lib.hid hx
      have HL := Lib.hid e2
      clear hb hx e2
      go_wp2_with fail
      refine (its_any T V _ ls _ HS.out.e (by rw [Hn.out]; omega)).mono ?_
      rintro e w6 ⟨u, rfl, hE, hb1⟩
      have hb := HB.out.trans (hb1.mono HB.out.size)
      have hx := HS.out.below hb1
      have e2 := HL.out.below hb1
      clear s0 s1 s2 HB HS HL hb1
      have s0 := hx.c0
      have s1 := hx.c1
      have s2 := hx.c2
      have HB := Lib.hid hb
      have HS := Lib.hid hx
      have HL := Lib.hid e2
      clear hb hx e2
      go_wp2_with fail
      refine (rtermAt_any T V _ ls i _ hE (by rw [Hn.out]; omega) HI.out).mono ?_
      rw [HTA.out]
      rintro e w7 ⟨rfl, hb1⟩
      clear hE
      have hb := HB.out.trans (hb1.mono HB.out.size)
      have hx := HS.out.below hb1
      have e2 := HL.out.below hb1
      clear s0 s1 s2 HB HS HL hb1
      have s0 := hx.c0
      have s1 := hx.c1
      have s2 := hx.c2
      have HB := Lib.hid hb
      have HS := Lib.hid hx
      have HL := Lib.hid e2
      clear hb hx e2
      go_wp2_with fail
      refine (match_any T V _ _ ls l prev pt _ HS.out.e HL.out (by rw [Hn.out]; omega) (by rw [Hn2.out]; omega) HP.out).mono ?_
      rintro e w8 ⟨u1, rfl, hE1, hb1⟩
      rw [HMM.out] at hE1 ⊢
      obtain ⟨A1, k1, hu1⟩ := hE1.form
      rw [HNM.out] at hu1
      subst hu1
      have hb := HB.out.trans (hb1.mono HB.out.size)
      have hx := HS.out.below hb1
      have e2 := HL.out.below hb1
      clear s0 s1 s2 HB HS HL hb1
      have s0 := hx.c0
      have s1 := hx.c1
      have s2 := hx.c2
      have HB := Lib.hid hb
      have HS := Lib.hid hx
      have HL := Lib.hid e2
      clear hb hx e2
      have hbx := HBox.new (T := T) (V := V) 25 hE1
      have hb1 := below_box w8 (.int .u64 (T : Int)) (.int .i64 V) (.slice A1 nm k1) 25
      have hb := HB.out.trans (hb1.mono HB.out.size)
      have hx := HS.out.below hb1
      have e2 := HL.out.below hb1
      clear s0 s1 s2 HB HS HL hb1
      have s0 := hx.c0
      have s1 := hx.c1
      have s2 := hx.c2
      have HB := Lib.hid hb
      have HS := Lib.hid hx
      have HL := Lib.hid e2
      clear hb hx e2
      have HM := Lib.hid hbx
      clear hbx hE1
      unfold stV
      go_wp2_with fail
      obtain ⟨G1, hG1⟩ : ∃ g, w8.heap.size = g := ⟨_, rfl⟩
      obtain ⟨Y1, hY1⟩ : ∃ Y, w8.alloc (.cells #[.int .u64 (T : Int), .int .i64 V, .slice A1 nm k1] 25) = Y := ⟨_, rfl⟩
      have hm := HM.out
      rw [hY1] at s0 s1 s2 HS HL HB hm ⊢
      rw [hG1] at hm ⊢
      have HM := Lib.hid hm
      clear hm hG1 hY1
      refine (its_any T V _ ls _ HS.out.e (by rw [Hn.out]; omega)).mono ?_
      rintro e w9 ⟨u, rfl, hE, hb1⟩
      have HM := Lib.hid (HM.out.below hb1)
      have hb := HB.out.trans (hb1.mono HB.out.size)
      have hx := HS.out.below hb1
      have e2 := HL.out.below hb1
      clear s0 s1 s2 HB HS HL hb1
      have s0 := hx.c0
      have s1 := hx.c1
      have s2 := hx.c2
      have HB := Lib.hid hb
      have HS := Lib.hid hx
      have HL := Lib.hid e2
      clear hb hx e2
      go_wp2_with fail
      refine (its_any 0 0 _ l _ HL.out (by rw [Hn2.out]; omega)).mono ?_
      rintro e w10 ⟨u', rfl, hE', hb1⟩
      obtain ⟨Ax, kx, hux⟩ := hE'.form
      subst hux
      have hE2 := hE.below hb1
      have hfd := field_L Ax l.length kx
      have HM := Lib.hid (HM.out.below hb1)
      have hb := HB.out.trans (hb1.mono HB.out.size)
      have hx := HS.out.below hb1
      have e2 := HL.out.below hb1
      clear s0 s1 s2 HB HS HL hb1
      have s0 := hx.c0
      have s1 := hx.c1
      have s2 := hx.c2
      have HB := Lib.hid hb
      have HS := Lib.hid hx
      have HL := Lib.hid e2
      clear hb hx e2
      clear hE
      unfold stV
      go_wp2_with fail
      refine (rmatch_any T V _ _ ls l prev pt _ hE2 hE' (by rw [Hn.out]; omega) (by rw [Hn2.out]; omega) HP.out).mono ?_
      clear hE2 hE' hfd
      rintro e w11 ⟨u2, rfl, hE2, hb1⟩
      rw [HMM.out] at hE2 ⊢
      obtain ⟨A3, k3, hu3⟩ := hE2.form
      rw [HNM.out] at hu3
      subst hu3
      have HM := Lib.hid (HM.out.below hb1)
      have hb := HB.out.trans (hb1.mono HB.out.size)
      have hx := HS.out.below hb1
      have e2 := HL.out.below hb1
      clear s0 s1 s2 HB HS HL hb1
      have s0 := hx.c0
      have s1 := hx.c1
      have s2 := hx.c2
      have HB := Lib.hid hb
      have HS := Lib.hid hx
      have HL := Lib.hid e2
      clear hb hx e2
      have hbx := HBox.new (T := T) (V := V) 38 hE2
      have hb1 := below_box w11 (.int .u64 (T : Int)) (.int .i64 V) (.slice A3 nm k3) 38
      have HM := Lib.hid (HM.out.below hb1)
      have hb := HB.out.trans (hb1.mono HB.out.size)
      have hx := HS.out.below hb1
      have e2 := HL.out.below hb1
      clear s0 s1 s2 HB HS HL hb1
      have s0 := hx.c0
      have s1 := hx.c1
      have s2 := hx.c2
      have HB := Lib.hid hb
      have HS := Lib.hid hx
      have HL := Lib.hid e2
      clear hb hx e2
      have HX5 := Lib.hid hbx
      clear hbx hE2
      unfold stV
      go_wp2
      have hm5 := HM.out
      have hx5 := HX5.out
      obtain ⟨G2, hG2⟩ : ∃ g, w11.heap.size = g := ⟨_, rfl⟩
      obtain ⟨Y3, hY3⟩ : ∃ Y, w11.alloc (.cells #[.int .u64 (T : Int), .int .i64 V, .slice A3 nm k3] 38) = Y := ⟨_, rfl⟩
      rw [hY3] at s0 s1 s2 HS HB hm5 hx5 ⊢
      rw [hG2] at hx5 ⊢
      have hs := HS.out
      have MK : Hid (∀ w', Below Y3.heap.size Y3 w' → w'.cell? ⟨w.heap.size, 0, none⟩ = some (.int .u64 (T : Int)) ∧ w'.cell? ⟨w.heap.size, 1, none⟩ = some (.int .i64 V) ∧ w'.cell? ⟨w.heap.size, 2, none⟩ = some (.slice A n c) ∧
        w'.cell? ⟨G1, 0, none⟩ = some (.int .u64 (T : Int)) ∧ w'.cell? ⟨G1, 1, none⟩ = some (.int .i64 V) ∧ w'.cell? ⟨G1, 2, none⟩ = some (.slice A1 nm k1) ∧
        w'.cell? ⟨G2, 0, none⟩ = some (.int .u64 (T : Int)) ∧ w'.cell? ⟨G2, 1, none⟩ = some (.int .i64 V) ∧ w'.cell? ⟨G2, 2, none⟩ = some (.slice A3 nm k3)) := Lib.hid (fun w' h =>
        ⟨cell_later h hs.c0, cell_later h hs.c1, cell_later h hs.c2, cell_later h hm5.c0, cell_later h hm5.c1, cell_later h hm5.c2, cell_later h hx5.c0, cell_later h hx5.c1, cell_later h hx5.c2⟩)
      have E := Lib.hid hs.e
      have E0 := Lib.hid hm5.e
      have E1 := Lib.hid hx5.e
      have hW : Below Y3.heap.size Y3 Y3.drew := below_drewN (Below.refl _ Y3) 1
      clear hm5 hx5 hs hG2 hY3 HM HX5 s0 s1 s2 HS HL
      go_region_held3 (fun w' => w'.cell? ⟨w.heap.size, 0, none⟩ = some (.int .u64 (T : Int)) ∧ w'.cell? ⟨w.heap.size, 1, none⟩ = some (.int .i64 V) ∧ w'.cell? ⟨w.heap.size, 2, none⟩ = some (.slice A n c) ∧
        w'.cell? ⟨G1, 0, none⟩ = some (.int .u64 (T : Int)) ∧ w'.cell? ⟨G1, 1, none⟩ = some (.int .i64 V) ∧ w'.cell? ⟨G1, 2, none⟩ = some (.slice A1 nm k1) ∧
        w'.cell? ⟨G2, 0, none⟩ = some (.int .u64 (T : Int)) ∧ w'.cell? ⟨G2, 1, none⟩ = some (.int .i64 V) ∧ w'.cell? ⟨G2, 2, none⟩ = some (.slice A3 nm k3))
        (exact MK.out _ hW)
        (first | (go_at_call 18; refine (newer_any T V _ ls tm i _ (E.out.below hW) (by rw [Hn.out]; omega)).mono ?_; rw [HNW.out]; rintro e w6 ⟨rfl, hb⟩; (try have hE0 := Ents.below hE0 hb); have hW := hW.trans (hb.mono hW.size)) | (go_at_call 19; refine (rnewer_any T V _ ls tm i _ ?_ (by rw [Hn.out]; omega)).mono ?_; (exact hE0); rw [HNW.out]; rintro e w6 ⟨rfl, hb⟩; have hW := hW.trans (hb.mono hW.size)) | (go_at_call 13; refine (its_any T V _ ?_ _ ?_ ?_).mono ?_; rotate_left; (first | exact E.out.below hW | exact E0.out.below hW); (first | (rw [Hn.out]; omega) | (rw [HNM.out]; omega)); rintro e w6 ⟨u, rfl, hE, hb⟩; have hE0 := hE; have hW := hW.trans (hb.mono hW.size); obtain ⟨Au, ku, hu⟩ := hE.form; subst hu; unfold stV) | (go_at_call 12; refine (same_self T V _ _ ms _ ?_ (E1.out.below hW) (by rw [HNM.out]; omega)).mono ?_; (exact hE0); rintro e w6 ⟨rfl, hb⟩; have hW := hW.trans (hb.mono hW.size)))
      all_goals
        have HFIN := Lib.hid (HB.out.trans (hW.mono HB.out.size))
        clear hW hb hE hE0
        simp only [Exit.then]
        go_wp2
        go_ret
        exact ⟨rfl, HFIN.out⟩
    · rw [Bool.not_eq_true] at hbb
      rw [hbb] at c2'
      have C2 := Lib.hid c2'
      clear c1 c2' ha hbb
      go_enter Try.func5, Try.ntmps5
      go_wp2_with fail
      rw [HX.out]
      refine C1.out.mono ?_
      rintro e w1 ⟨rfl, rfl⟩
      go_wp2_with fail
      refine C2.out.mono ?_
      rintro e w1 ⟨rfl, rfl⟩
      go_wp2_with fail
      refine (shown_any _).mono ?_
      rintro e w1 ⟨rfl, hb1⟩
      have HB2 := Lib.hid (HB.out.trans (hb1.mono HB.out.size))
      clear hb1
      go_wp2
      go_ret
      exact ⟨rfl, HB2.out⟩
  · rw [Bool.not_eq_true] at ha
    rw [ha] at c1
    have C1 := Lib.hid c1
    clear c1 c2' ha
    go_enter Try.func5, Try.ntmps5
    go_wp2_with fail
    rw [HX.out]
    refine C1.out.mono ?_
    rintro e w1 ⟨rfl, rfl⟩
    go_wp2_with fail
    refine (shown_any _).mono ?_
    rintro e w1 ⟨rfl, hb1⟩
    have HB2 := Lib.hid (HB.out.trans (hb1.mono HB.out.size))
    clear hb1
    go_wp2
    go_ret
    exact ⟨rfl, HB2.out⟩
end Go.Proofs.Ytgaamknkigdoeaa
