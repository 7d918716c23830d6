/- law17's entries, state: walked. -/
import Derived.Test.YtkoidphhlfjlhaaRfStep
import Derived.Test.YtkoidphhlfjlhaaRfPropose
namespace Go.Proofs.Ytkoidphhlfjlhaa
open Go Go.RowKit Go.Deep
set_option maxRecDepth 100000

set_option maxHeartbeats 4000000 in
theorem entries_any (v : Value) (ls : List rl.Ent) (w : World) (hv : Ents w v ls) (hl : ls.length ≤ 10000) :
    Calls Try.prog 34 #[v] w fun e w' => ∃ A c, e = .returned (.slice A ls.length c) ∧ w'.ownsRow w.heap.size 84 2 (.slice A ls.length c) ls.length (entCells ls) ∧ Below w.heap.size w w' := by
  obtain ⟨i0, hi, hz0, hz1, hz2⟩ := info_parts info_ent
  obtain ⟨A, c, rfl, hc, hcm, h0⟩ := hv
  obtain ⟨n, hn⟩ : ∃ n, ls.length = n := ⟨_, rfl⟩
  rw [hn] at hl h0 hc ⊢
  have Hn := Lib.hid hn
  have H0 := Lib.hid h0
  clear hn h0
  go_enter Try.func34, Try.ntmps34
  go_wp2_with fail
  have hown0 := World.ownsRow_made (base := w.heap.size) (e := 84) (size := 2) w #[] 0 (Nat.le_refl _) (by unfold maxLen; omega) rfl
  have hb0 : Below w.heap.size w (w.alloc (.cells #[] 84)) := (Below.refl _ w).alloc (Nat.le_refl _) _
  have HO0 := Lib.hid hown0
  have HB0 := Lib.hid hb0
  clear hown0 hb0
  go_loopw [3, 4] (fun u i wr => ∃ k : Nat, k ≤ n ∧ i = .int .i64 k ∧ wr.ownsRow w.heap.size 84 2 u k (entCells (ls.take k)) ∧ Below w.heap.size w wr) (fun _ i _ => n - (intOf i).toNat)
  case atStart => exact ⟨0, Nat.zero_le _, rfl, HO0.out, HB0.out⟩
  case round =>
    obtain ⟨k, hk, rfl, hown, hbel⟩ := hrel
    by_cases hlt : k < n
    · obtain ⟨b, o, rfl, hA⟩ := H0.out (by omega)
      obtain ⟨c0, c1⟩ := hA k (by rw [Hn.out]; exact hlt)
      have c0' := cell_later hbel c0
      have c1' := cell_later hbel c1
      have hnext : entCells (ls.take k) ++ entCells [ls.getD k rl.e0] = entCells (ls.take (k + 1)) := by rw [take_snoc (by rw [Hn.out]; exact hlt), entCells_append]
      obtain ⟨t, ht⟩ : ∃ t, ls.getD k rl.e0 = t := ⟨_, rfl⟩
      rw [ht] at c0' c1' hnext
      have hkn : (k : Int) < (n : Int) := by omega
      obtain ⟨xs, hxs⟩ : ∃ xs, entCells (ls.take k) = xs := ⟨_, rfl⟩
      rw [hxs] at hown hnext
      obtain ⟨Au, cu, hu⟩ := owns_slice hown
      subst hu
      have HN := Lib.hid hnext
      have HOW := Lib.hid hown
      have HBE := Lib.hid hbel
      clear hA c0 c1 ht hxs hnext hown hbel
      go_wp2_with (at_builtin; refine wpList_append_opt _ rfl (.tmp 12) (.tmp 17) 40 rfl w.heap.size 84 i0 _ 2 24 Try.underlying40 hi hz0 hz1 hz2 rfl (by decide) (.slice Au k cu) k xs rfl (HOW.out.alloc _) (some ⟨wr.heap.size, 0, none⟩) 1 1 (entCells [t]) rfl rfl (fun _ => ⟨_, rfl, cells_new2 _ _ _ _⟩) (entCells_one _) (by unfold maxLen; omega) (by omega) (by have := HBE.out.size; simp; omega) ?_; intro v' w3 hown' hgrow'; obtain ⟨A', c', hv'⟩ := owns_slice hown'; subst hv')
      rw [HN.out] at hown'
      have hb3 := (HBE.out.alloc HBE.out.size (.cells #[.int .u64 (t.1 : Int), .string (crcm.mk t.2)] 84)).grown hgrow' (by have := HBE.out.size; simp; omega) (fun j hj => (HOW.out.lt j hj).1)
      have HO3 := Lib.hid hown'
      have HB3 := Lib.hid hb3
      clear hown' hb3 hgrow'
      go_wp2_with fail
      go_roundw
      case rel => exact ⟨k + 1, by omega, by go_num, HO3.out, HB3.out⟩
      case measure => simp [intOf]; omega
    · obtain rfl : k = n := by omega
      obtain ⟨Au, cu, hu⟩ := owns_slice hown
      subst hu
      have htk : ls.take k = ls := List.take_of_length_le (by rw [Hn.out]; exact Nat.le_refl _)
      rw [htk] at hown
      have HE := Lib.hid hown
      have HBL := Lib.hid hbel
      clear hown hbel htk
      go_wp2
      go_ret
      exact ⟨Au, cu, rfl, HE.out, HBL.out⟩
set_option maxHeartbeats 4000000 in
theorem state_any (T : Nat) (V : Int) (A : Option Addr) (c : Nat) (ls : List rl.Ent) (w : World) (hv : Ents w (.slice A ls.length c) ls) (hl : ls.length ≤ 10000) :
    Calls Try.prog 19 #[stV T V (.slice A ls.length c)] w fun e w' => ∃ A2 c2, e = .returned (stV T V (.slice A2 ls.length c2)) ∧ Ents w' (.slice A2 ls.length c2) ls ∧ Below w.heap.size w w' := by
  obtain ⟨L, hL⟩ : ∃ L, ls.length = L := ⟨_, rfl⟩
  rw [hL] at hv ⊢
  obtain ⟨X, b, hX, hb, hbX, kb⟩ := box_blk w [.int .u64 (T : Int), .int .i64 V, .slice A L c] 25
  obtain ⟨Y, r, hY, hr, hbY, kr⟩ := box_blk X [.int .u64 0, .int .i64 0, .slice none 0 0] 42
  obtain rfl : r = b + 1 := by rw [← hr, ← hX, ← hb]; simp
  have kbY := kb.below hbY
  have hbXY := hbX.trans (hbY.mono hbX.size)
  have hvY := hv.below hbXY
  have HX := Lib.hid hX
  have HY := Lib.hid hY
  have HKB := Lib.hid kbY
  have HKR := Lib.hid kr
  have HXY := Lib.hid hbXY
  have HV := Lib.hid hvY
  have HL := Lib.hid hL
  have Hl := Lib.hid hl
  have hge : w.heap.size ≤ b + 1 := by omega
  have HGE := Lib.hid hge
  have MK : Hid (∀ w', Below Y.heap.size Y w' → w'.cell? ⟨b, 0, none⟩ = some (.int .u64 (T : Int)) ∧ w'.cell? ⟨b, 1, none⟩ = some (.int .i64 V) ∧ w'.cell? ⟨b, 2, none⟩ = some (.slice A L c)) := Lib.hid (fun w' h => ⟨(kbY.below h).cell 0 _ rfl, (kbY.below h).cell 1 _ rfl, (kbY.below h).cell 2 _ rfl⟩)
  have MK2 : Hid (∀ w' x y z, Below Y.heap.size Y w' → (((w'.setCell ⟨b + 1, 0, none⟩ x).setCell ⟨b + 1, 1, none⟩ y).setCell ⟨b + 1, 2, none⟩ z).cell? ⟨b, 0, none⟩ = some (.int .u64 (T : Int)) ∧ (((w'.setCell ⟨b + 1, 0, none⟩ x).setCell ⟨b + 1, 1, none⟩ y).setCell ⟨b + 1, 2, none⟩ z).cell? ⟨b, 1, none⟩ = some (.int .i64 V) ∧ (((w'.setCell ⟨b + 1, 0, none⟩ x).setCell ⟨b + 1, 1, none⟩ y).setCell ⟨b + 1, 2, none⟩ z).cell? ⟨b, 2, none⟩ = some (.slice A L c)) := Lib.hid (fun w' x y z h => by
    have k := (((kbY.below h).other ⟨b + 1, 0, none⟩ x (show b ≠ b + 1 by omega)).other ⟨b + 1, 1, none⟩ y (show b ≠ b + 1 by omega)).other ⟨b + 1, 2, none⟩ z (show b ≠ b + 1 by omega)
    exact ⟨k.cell 0 _ rfl, k.cell 1 _ rfl, k.cell 2 _ rfl⟩)
  have hW : Below Y.heap.size Y Y.drew := below_drewN (Below.refl _ Y) 1
  clear hX hY kb kr kbY hbX hbY hbXY hv hvY hL hl hge
  unfold stV
  go_enter Try.func19, Try.ntmps19
  go_upto_region 1 with fail
  rw [show w.alloc (.cells #[.int .u64 (T : Int), .int .i64 V, .slice A L c] 25) = X from HX.out, show X.alloc (.cells #[.int .u64 0, .int .i64 0, .slice none 0 0] 42) = Y from HY.out]
  go_region_held3 (fun w' => w'.cell? ⟨b, 0, none⟩ = some (.int .u64 (T : Int)) ∧ w'.cell? ⟨b, 1, none⟩ = some (.int .i64 V) ∧ w'.cell? ⟨b, 2, none⟩ = some (.slice A L c))
    (first | with_reducible exact MK.out _ hW | with_reducible exact MK2.out _ _ _ _ hW)
    (first | (go_at_call 34; refine (entries_any _ ls _ (HV.out.below hW) Hl.out).mono ?_; rintro e w6 ⟨A6, c6, rfl, hown, hb6⟩; have hE6 := ents_of_owns hown; rw [HL.out] at hE6 ⊢; have hW := hW.trans (hb6.mono hW.size); have kz := HKR.out.below hW; have z0 := kz.cell 0 _ rfl; have z1 := kz.cell 1 _ rfl; have z2 := kz.cell 2 _ rfl; have zf0 := kz.free 0; have zf1 := kz.free 1; have zf2 := kz.free 2))
  all_goals
    have kz3 := ((kz.set 0 (.int .u64 (T : Int))).set 1 (.int .i64 V)).set 2 (.slice A6 L c6)
    have hfin : Below w.heap.size w (((w6.setCell ⟨b + 1, 0, none⟩ (.int .u64 (T : Int))).setCell ⟨b + 1, 1, none⟩ (.int .i64 V)).setCell ⟨b + 1, 2, none⟩ (.slice A6 L c6)) := (HXY.out.trans (hW.mono HXY.out.size)).box3 _ HGE.out _ _ _
    have hE7 : Ents (((w6.setCell ⟨b + 1, 0, none⟩ (.int .u64 (T : Int))).setCell ⟨b + 1, 1, none⟩ (.int .i64 V)).setCell ⟨b + 1, 2, none⟩ (.slice A6 L c6)) (.slice A6 L c6) ls := by
      have h0 := hE6.far kz (by intro x hx s e; subst e; simp at hx) 0 (.int .u64 (T : Int))
      have h1 := h0.far (kz.set 0 _) (by intro x hx s e; subst e; simp at hx) 1 (.int .i64 V)
      exact h1.far ((kz.set 0 _).set 1 _) (by intro x hx s e; subst e; simp at hx) 2 _
    have HK3 := Lib.hid kz3
    have HFN := Lib.hid hfin
    have HE7 := Lib.hid hE7
    clear kz kz3 hfin hE7 hE6 hown z0 z1 z2 zf0 zf1 zf2 hW hb6
    go_wp2
    refine bodyPost_ret (results_cell_row rfl _ _ (b + 1) _ _ (0, 0) _ rfl HK3.out Try.underlying42 rfl rstate_size) rfl ?_
    exact ⟨A6, c6, rfl, HE7.out, HFN.out⟩
end Go.Proofs.Ytkoidphhlfjlhaa
