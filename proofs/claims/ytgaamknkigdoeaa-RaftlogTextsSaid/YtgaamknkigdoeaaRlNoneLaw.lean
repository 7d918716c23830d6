/- RaftlogNone walked: whatever comes in, it returns true. -/
import Derived.Test.YtgaamknkigdoeaaRlNewerLaw
import Derived.Deep.RegionHeld3
namespace Go.Proofs.Ytgaamknkigdoeaa
open Go Go.RowKit

namespace rl
theorem termAt_last (ls : List Ent) : termAt ls ls.length = (lastTerm ls, true) := by
  unfold termAt lastTerm
  split
  · rfl
  · rw [if_neg (by omega)]
theorem lastTerm_lt (ls : List Ent) (h : ∀ x ∈ ls, x.1 < 18446744073709551616) : lastTerm ls < 18446744073709551616 := by
  unfold lastTerm
  split
  · omega
  · rename_i hne
    have hl : ls.length - 1 < ls.length := by omega
    have : ls.getD (ls.length - 1) e0 ∈ ls := by
      rw [List.getD_eq_getElem?_getD, List.getElem?_eq_getElem hl]; exact List.getElem_mem _
    exact h _ this
theorem match_out (ls l : List Ent) (k t : Nat) (h : ls.length < k) : match_ ls k t l = (ls, 0, 3) := by
  unfold match_ termAt
  rw [if_neg (by omega : ¬ k = 0), if_pos h, if_neg]
  intro e
  cases e
theorem match_other (ls l : List Ent) (t : Nat) (h : t ≠ lastTerm ls) : match_ ls ls.length t l = (ls, 0, 3) := by
  unfold match_
  rw [termAt_last, if_neg]
  intro e
  exact h (by cases e; rfl)
theorem match_nil (ls : List Ent) : match_ ls ls.length (lastTerm ls) [] = (ls, ls.length, 0) := by
  unfold match_
  rw [termAt_last, if_pos rfl, if_neg (by simp)]
  rfl
end rl
/-- a state's box -/
structure HBox (W : World) (g T : Nat) (V : Int) (v : Value) (ls : List rl.Ent) : Prop where
  c0 : W.cell? ⟨g, 0, none⟩ = some (.int .u64 (T : Int))
  c1 : W.cell? ⟨g, 1, none⟩ = some (.int .i64 V)
  c2 : W.cell? ⟨g, 2, none⟩ = some v
  e : Ents W v ls
theorem HBox.below {W W' : World} {g T : Nat} {V : Int} {v : Value} {ls : List rl.Ent} (h : HBox W g T V v ls) (hb : Below W.heap.size W W') : HBox W' g T V v ls :=
  ⟨cell_later hb h.c0, cell_later hb h.c1, cell_later hb h.c2, h.e.below hb⟩
theorem HBox.new {W : World} {T : Nat} {V : Int} {v : Value} {ls : List rl.Ent} (t : TypeId) (h : Ents W v ls) : HBox (W.alloc (.cells #[.int .u64 (T : Int), .int .i64 V, v] t)) W.heap.size T V v ls := by
  obtain ⟨b0, b1, b2⟩ := box_cells W (.int .u64 (T : Int)) (.int .i64 V) v t
  exact ⟨b0, b1, b2, h.below (below_alloc _ _)⟩

theorem same_self (T : Nat) (V : Int) (u v : Value) (ls : List rl.Ent) (w : World) (hu : Ents w u ls) (hv : Ents w v ls) (hl : ls.length ≤ 100000) :
    Calls Try.prog 12 #[stV T V u, stV T V v] w fun e w' => e = .returned (.bool true) ∧ Below w.heap.size w w' := by
  have h := same_any T T V V u v ls ls w hu hv hl hl
  have hd : decide (T = T ∧ V = V ∧ ls = ls) = true := by simp
  rw [hd] at h
  exact h
theorem below_box (w : World) (a b c : Value) (t : TypeId) : Below w.heap.size w (w.alloc (.cells #[a, b, c] t)) := below_alloc _ _

set_option maxRecDepth 100000 in
set_option maxHeartbeats 4000000 in
theorem rnone_law (T : Nat) (V : Int) (v lv : Value) (more : Nat) (ls l : List rl.Ent) (w : World) (hv : Ents w v ls) (hf : Fine ls) (hv2 : Ents w lv l) (hf2 : Fine l) (hmore : more < 256) :
    Calls Try.prog 4 #[stV T V v, .int .u8 (more : Int), lv] w fun e w' => e = .returned (.bool true) ∧ Below w.heap.size w w' := by
  obtain ⟨A, c, hu⟩ := hv.form
  obtain ⟨n, hn⟩ : ∃ n, ls.length = n := ⟨_, rfl⟩
  rw [hn] at hu
  subst hu
  have hb := below_box w (.int .u64 (T : Int)) (.int .i64 V) (.slice A n c) 25
  have hx := HBox.new (T := T) (V := V) 25 hv
  obtain ⟨X, hX⟩ : ∃ X, w.alloc (.cells #[.int .u64 (T : Int), .int .i64 V, .slice A n c] 25) = X := ⟨_, rfl⟩
  rw [hX] at hb hx
  have e2 := hv2.below hb
  have c1 := bounded_any _ ls X hx.e hf
  have c2 := bounded_any _ l X e2 hf2
  have s0 := hx.c0
  have s1 := hx.c1
  have s2 := hx.c2
  have HX := Lib.hid hX
  have HB := Lib.hid hb
  have HS := Lib.hid hx
  have HL := Lib.hid e2
  have hlt := rl.lastTerm_lt ls (fun x h => (hf.2 x h).1)
  have hn2 := rl.match_out ls l (n + 1 + more) (rl.lastTerm ls) (by omega)
  obtain ⟨pt, hpt, hpt1, hpt2⟩ : ∃ pt : Nat, IntKind.u64.wrap (((rl.lastTerm ls : Nat) : Int) + 1) = (pt : Int) ∧ pt < 18446744073709551616 ∧ pt ≠ rl.lastTerm ls := by
    by_cases h : rl.lastTerm ls + 1 < 18446744073709551616
    · exact ⟨rl.lastTerm ls + 1, by rw [wrap_u64_in (by omega) (by omega)]; rfl, h, by omega⟩
    · refine ⟨0, ?_, by omega, by omega⟩
      rw [show ((rl.lastTerm ls : Nat) : Int) + 1 = 18446744073709551616 from by omega]
      rfl
  have hn3 := rl.match_other ls l pt hpt2
  have hn4 := rl.match_nil ls
  rw [hn] at hn3 hn4
  have HN2 := Lib.hid hn2
  have HN3 := Lib.hid hn3
  have HN4 := Lib.hid hn4
  have Hn := Lib.hid hn
  have Hf := Lib.hid hf
  have Hf2 := Lib.hid hf2
  clear hX hb hx hv hv2 e2 hn2 hn3 hn4 hn hf hf2 hpt2
  obtain ⟨t, ht⟩ : ∃ t, rl.lastTerm ls = t := ⟨_, rfl⟩
  rw [ht] at hpt hlt HN2 HN4
  have HT := Lib.hid ht
  have Hlt := Lib.hid hlt
  have Hpt1 := Lib.hid hpt1
  clear ht hlt hpt1
  unfold stV
  by_cases ha : okEnts ls = true
  · rw [ha] at c1
    have C1 := Lib.hid c1
    by_cases hbb : okEnts l = true
    · rw [hbb] at c2
      have C2 := Lib.hid c2
      have hl1 := (ok_bounds ha).1
      have hl2 := (ok_bounds hbb).1
      rw [Hn.out] at hl1
      clear c1 c2 ha hbb
      go_enter Try.func4, Try.ntmps4
      go_wp2_with fail
      rw [HX.out]
      refine C1.out.mono ?_
      rintro e w1 ⟨rfl, rfl⟩
      go_wp2_with fail
      refine C2.out.mono ?_
      rintro e w1 ⟨rfl, rfl⟩
      go_wp2_with fail
      refine (shown_any _).mono ?_
      rintro e w1 ⟨rfl, hb1⟩
      clear C1 C2 HX
      have hb := HB.out.trans (hb1.mono HB.out.size)
      have hx := HS.out.below hb1
      have e2 := HL.out.below hb1
      clear s0 s1 s2 HB HS HL hb1
      have s0 := hx.c0
      have s1 := hx.c1
      have s2 := hx.c2
      have HB := Lib.hid hb
      have HS := Lib.hid hx
      have HL := Lib.hid e2
      clear hb hx e2
      go_wp2_with fail
      refine (last_any T V _ ls _ HS.out.e (by rw [Hn.out]; omega)).mono ?_
      rw [Hn.out, HT.out]
      rintro e w2 ⟨rfl, hb1⟩
      have hb := HB.out.trans (hb1.mono HB.out.size)
      have hx := HS.out.below hb1
      have e2 := HL.out.below hb1
      clear s0 s1 s2 HB HS HL hb1
      have s0 := hx.c0
      have s1 := hx.c1
      have s2 := hx.c2
      have HB := Lib.hid hb
      have HS := Lib.hid hx
      have HL := Lib.hid e2
      clear hb hx e2
      have hprev : (n : Int) + 1 + (more : Int) = ((n + 1 + more : Nat) : Int) := by omega
      have HP := Lib.hid hprev
      clear hprev
      go_wp2_with fail
      rw [HP.out]
      refine (match_any T V _ _ ls l (n + 1 + more) t _ HS.out.e HL.out (by rw [Hn.out]; omega) (by omega) (by omega)).mono ?_
      rintro e w3 ⟨u1, rfl, hE1, hb1⟩
      rw [HN2.out] at hE1 ⊢
      obtain ⟨A1, k1, hu1⟩ := hE1.form
      rw [Hn.out] at hu1
      subst hu1
      have hb := HB.out.trans (hb1.mono HB.out.size)
      have hx := HS.out.below hb1
      have e2 := HL.out.below hb1
      clear s0 s1 s2 HB HS HL hb1
      have s0 := hx.c0
      have s1 := hx.c1
      have s2 := hx.c2
      have HB := Lib.hid hb
      have HS := Lib.hid hx
      have HL := Lib.hid e2
      clear hb hx e2
      have hbx := HBox.new (T := T) (V := V) 25 hE1
      have hb1 := below_box w3 (.int .u64 (T : Int)) (.int .i64 V) (.slice A1 n k1) 25
      have hb := HB.out.trans (hb1.mono HB.out.size)
      have hx := HS.out.below hb1
      have e2 := HL.out.below hb1
      clear s0 s1 s2 HB HS HL hb1
      have s0 := hx.c0
      have s1 := hx.c1
      have s2 := hx.c2
      have HB := Lib.hid hb
      have HS := Lib.hid hx
      have HL := Lib.hid e2
      clear hb hx e2
      have HM1 := Lib.hid hbx
      clear hbx hE1
      unfold stV
      go_wp2_with fail
      have hm1 := HM1.out
      obtain ⟨G1, hG1⟩ : ∃ g, w3.heap.size = g := ⟨_, rfl⟩
      obtain ⟨Y1, hY1⟩ : ∃ Y, w3.alloc (.cells #[.int .u64 (T : Int), .int .i64 V, .slice A1 n k1] 25) = Y := ⟨_, rfl⟩
      rw [hY1] at s0 s1 s2 HS HL HB hm1 ⊢
      rw [hG1] at hm1 ⊢
      have HM1 := Lib.hid hm1
      clear hm1 hG1 hY1
      refine (match_any T V _ _ ls l n pt _ HS.out.e HL.out (by rw [Hn.out]; omega) (by omega) (by omega)).mono ?_
      rintro e w4 ⟨u2, rfl, hE2, hb1⟩
      rw [HN3.out] at hE2 ⊢
      obtain ⟨A2, k2, hu2⟩ := hE2.form
      rw [Hn.out] at hu2
      subst hu2
      have HM1 := Lib.hid (HM1.out.below hb1)
      have hb := HB.out.trans (hb1.mono HB.out.size)
      have hx := HS.out.below hb1
      have e2 := HL.out.below hb1
      clear s0 s1 s2 HB HS HL hb1
      have s0 := hx.c0
      have s1 := hx.c1
      have s2 := hx.c2
      have HB := Lib.hid hb
      have HS := Lib.hid hx
      have HL := Lib.hid e2
      clear hb hx e2
      have hbx := HBox.new (T := T) (V := V) 25 hE2
      have hb1 := below_box w4 (.int .u64 (T : Int)) (.int .i64 V) (.slice A2 n k2) 25
      have HM1 := Lib.hid (HM1.out.below hb1)
      have hb := HB.out.trans (hb1.mono HB.out.size)
      have hx := HS.out.below hb1
      have e2 := HL.out.below hb1
      clear s0 s1 s2 HB HS HL hb1
      have s0 := hx.c0
      have s1 := hx.c1
      have s2 := hx.c2
      have HB := Lib.hid hb
      have HS := Lib.hid hx
      have HL := Lib.hid e2
      clear hb hx e2
      have HM2 := Lib.hid hbx
      clear hbx hE2
      unfold stV
      go_wp2_with fail
      have hm1 := HM1.out
      have hm2 := HM2.out
      obtain ⟨G2, hG2⟩ : ∃ g, w4.heap.size = g := ⟨_, rfl⟩
      obtain ⟨Y2, hY2⟩ : ∃ Y, w4.alloc (.cells #[.int .u64 (T : Int), .int .i64 V, .slice A2 n k2] 25) = Y := ⟨_, rfl⟩
      rw [hY2] at s0 s1 s2 HS HL HB hm1 hm2 ⊢
      rw [hG2] at hm2 ⊢
      have HM1 := Lib.hid hm1
      have HM2 := Lib.hid hm2
      clear hm1 hm2 hG2 hY2
      refine (match_any T V _ _ ls [] n t _ HS.out.e ⟨none, 0, rfl, Nat.le_refl _, Nat.zero_le _, fun h => absurd h (by simp)⟩ (by rw [Hn.out]; omega) (by simp) (by omega)).mono ?_
      rintro e w5 ⟨u3, rfl, hE3, hb1⟩
      rw [HN4.out] at hE3 ⊢
      obtain ⟨A3, k3, hu3⟩ := hE3.form
      rw [Hn.out] at hu3
      subst hu3
      have HM1 := Lib.hid (HM1.out.below hb1)
      have HM2 := Lib.hid (HM2.out.below hb1)
      have hb := HB.out.trans (hb1.mono HB.out.size)
      have hx := HS.out.below hb1
      have e2 := HL.out.below hb1
      clear s0 s1 s2 HB HS HL hb1
      have s0 := hx.c0
      have s1 := hx.c1
      have s2 := hx.c2
      have HB := Lib.hid hb
      have HS := Lib.hid hx
      have HL := Lib.hid e2
      clear hb hx e2
      have hbx := HBox.new (T := T) (V := V) 25 hE3
      have hb1 := below_box w5 (.int .u64 (T : Int)) (.int .i64 V) (.slice A3 n k3) 25
      have HM1 := Lib.hid (HM1.out.below hb1)
      have HM2 := Lib.hid (HM2.out.below hb1)
      have hb := HB.out.trans (hb1.mono HB.out.size)
      have hx := HS.out.below hb1
      have e2 := HL.out.below hb1
      clear s0 s1 s2 HB HS HL hb1
      have s0 := hx.c0
      have s1 := hx.c1
      have s2 := hx.c2
      have HB := Lib.hid hb
      have HS := Lib.hid hx
      have HL := Lib.hid e2
      clear hb hx e2
      have HM3 := Lib.hid hbx
      clear hbx hE3
      unfold stV
      go_wp2
      have hm1 := HM1.out
      have hm2 := HM2.out
      have hm3 := HM3.out
      obtain ⟨G3, hG3⟩ : ∃ g, w5.heap.size = g := ⟨_, rfl⟩
      obtain ⟨Y3, hY3⟩ : ∃ Y, w5.alloc (.cells #[.int .u64 (T : Int), .int .i64 V, .slice A3 n k3] 25) = Y := ⟨_, rfl⟩
      rw [hY3] at s0 s1 s2 HS HL HB hm1 hm2 hm3 ⊢
      rw [hG3] at hm3 ⊢
      have hs := HS.out
      have MK : Hid (∀ w', Below Y3.heap.size Y3 w' → w'.cell? ⟨w.heap.size, 0, none⟩ = some (.int .u64 (T : Int)) ∧ w'.cell? ⟨w.heap.size, 1, none⟩ = some (.int .i64 V) ∧ w'.cell? ⟨w.heap.size, 2, none⟩ = some (.slice A n c) ∧
        w'.cell? ⟨G1, 0, none⟩ = some (.int .u64 (T : Int)) ∧ w'.cell? ⟨G1, 1, none⟩ = some (.int .i64 V) ∧ w'.cell? ⟨G1, 2, none⟩ = some (.slice A1 n k1) ∧
        w'.cell? ⟨G2, 0, none⟩ = some (.int .u64 (T : Int)) ∧ w'.cell? ⟨G2, 1, none⟩ = some (.int .i64 V) ∧ w'.cell? ⟨G2, 2, none⟩ = some (.slice A2 n k2) ∧
        w'.cell? ⟨G3, 0, none⟩ = some (.int .u64 (T : Int)) ∧ w'.cell? ⟨G3, 1, none⟩ = some (.int .i64 V) ∧ w'.cell? ⟨G3, 2, none⟩ = some (.slice A3 n k3)) := Lib.hid (fun w' h =>
        ⟨cell_later h hs.c0, cell_later h hs.c1, cell_later h hs.c2, cell_later h hm1.c0, cell_later h hm1.c1, cell_later h hm1.c2, cell_later h hm2.c0, cell_later h hm2.c1, cell_later h hm2.c2, cell_later h hm3.c0, cell_later h hm3.c1, cell_later h hm3.c2⟩)
      have E0 := Lib.hid hs.e
      have E1 := Lib.hid hm1.e
      have E2 := Lib.hid hm2.e
      have E3 := Lib.hid hm3.e
      have hW : Below Y3.heap.size Y3 Y3.drew := below_drewN (Below.refl _ Y3) 1
      clear hm1 hm2 hm3 hs hG3 hY3 HM1 HM2 HM3 s0 s1 s2 HS HL
      go_region_held3 (fun w' => w'.cell? ⟨w.heap.size, 0, none⟩ = some (.int .u64 (T : Int)) ∧ w'.cell? ⟨w.heap.size, 1, none⟩ = some (.int .i64 V) ∧ w'.cell? ⟨w.heap.size, 2, none⟩ = some (.slice A n c) ∧
        w'.cell? ⟨G1, 0, none⟩ = some (.int .u64 (T : Int)) ∧ w'.cell? ⟨G1, 1, none⟩ = some (.int .i64 V) ∧ w'.cell? ⟨G1, 2, none⟩ = some (.slice A1 n k1) ∧
        w'.cell? ⟨G2, 0, none⟩ = some (.int .u64 (T : Int)) ∧ w'.cell? ⟨G2, 1, none⟩ = some (.int .i64 V) ∧ w'.cell? ⟨G2, 2, none⟩ = some (.slice A2 n k2) ∧
        w'.cell? ⟨G3, 0, none⟩ = some (.int .u64 (T : Int)) ∧ w'.cell? ⟨G3, 1, none⟩ = some (.int .i64 V) ∧ w'.cell? ⟨G3, 2, none⟩ = some (.slice A3 n k3))
        (exact MK.out _ hW)
        (first | (go_at_call 13; refine (its_any T V _ ls _ ?_ (by rw [Hn.out]; omega)).mono ?_; (first | exact E0.out.below hW | exact E1.out.below hW | exact E2.out.below hW | exact E3.out.below hW); rintro e w6 ⟨u, rfl, hE, hb⟩; (try have hE0' := Ents.below hE0 hb); have hE0 := hE; have hW := hW.trans (hb.mono hW.size); obtain ⟨Au, ku, hu⟩ := hE.form; subst hu; unfold stV) | (go_at_call 12; refine (same_self T V _ _ ls _ ?_ ?_ (by rw [Hn.out]; omega)).mono ?_; (first | exact hE0 | exact hE0'); (first | exact hE0 | exact hE0'); rintro e w6 ⟨rfl, hb⟩; have hW := hW.trans (hb.mono hW.size)))
      all_goals
        have HFIN := Lib.hid (HB.out.trans (hW.mono HB.out.size))
        clear hW hb hE hE0 hE0'
        simp only [Exit.then]
        go_wp2
        go_ret
        exact ⟨rfl, HFIN.out⟩
    · rw [Bool.not_eq_true] at hbb
      rw [hbb] at c2
      have C2 := Lib.hid c2
      clear c1 c2 ha hbb
      go_enter Try.func4, Try.ntmps4
      go_wp2_with fail
      rw [HX.out]
      refine C1.out.mono ?_
      rintro e w1 ⟨rfl, rfl⟩
      go_wp2_with fail
      refine C2.out.mono ?_
      rintro e w1 ⟨rfl, rfl⟩
      go_wp2_with fail
      refine (shown_any _).mono ?_
      rintro e w1 ⟨rfl, hb1⟩
      have HB2 := Lib.hid (HB.out.trans (hb1.mono HB.out.size))
      clear hb1
      go_wp2
      go_ret
      exact ⟨rfl, HB2.out⟩
  · rw [Bool.not_eq_true] at ha
    rw [ha] at c1
    have C1 := Lib.hid c1
    clear c1 c2 ha
    go_enter Try.func4, Try.ntmps4
    go_wp2_with fail
    rw [HX.out]
    refine C1.out.mono ?_
    rintro e w1 ⟨rfl, rfl⟩
    go_wp2_with fail
    refine (shown_any _).mono ?_
    rintro e w1 ⟨rfl, hb1⟩
    have HB2 := Lib.hid (HB.out.trans (hb1.mono HB.out.size))
    clear hb1
    go_wp2
    go_ret
    exact ⟨rfl, HB2.out⟩
end Go.Proofs.Ytgaamknkigdoeaa
