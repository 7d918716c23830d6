/- RaftlogTexts walked: whatever comes in, it returns true. -/
import Derived.Test.YtgaamknkigdoeaaRlRFrom
import Derived.Deep.DeepCutAuto
namespace Go.Proofs.Ytgaamknkigdoeaa
open Go Go.RowKit

namespace rl
def badV (V : Int) : Bool := decide (V < -1) || decide (254 < V)
def textsL (T : Nat) (V : Int) (ls : List Ent) : List (List UInt8) := if badV V = true then [] else texts T V ls
def textsE (V : Int) : Nat := if badV V = true then 1 else 0
theorem from_len (ts : List (List UInt8)) : (from_ ts).1.2.2.length ≤ ts.length := by
  unfold from_
  cases ts with
  | nil => simp
  | cons h r =>
    simp only
    split
    · simp
    · simp
end rl
def TextsPost (T : Nat) (V : Int) (ls : List rl.Ent) (w : World) (e : Ending) (w' : World) : Prop :=
  ∃ A c, e = .returned (.tuple #[.slice A (rl.textsL T V ls).length c, .int .i64 (rl.textsE V : Nat)]) ∧ Strs w' (.slice A (rl.textsL T V ls).length c) (rl.textsL T V ls) ∧ Below w.heap.size w w'
theorem texts_any (T : Nat) (V : Int) (v : Value) (ls : List rl.Ent) (w : World) (hv : Ents w v ls) (hw : Writable T ls) : Calls Try.prog 20 #[stV T V v] w (TextsPost T V ls w) := by
  by_cases h : rl.badV V = true
  · have hb : V < -1 ∨ 254 < V := by unfold rl.badV at h; simpa using h
    refine (texts_bad T V v ls w hv hb).mono ?_
    rintro e w' ⟨rfl, hbl⟩
    unfold TextsPost rl.textsL rl.textsE
    rw [if_pos h, if_pos h]
    exact ⟨none, 0, rfl, ⟨none, 0, rfl, fun k hk => absurd hk (by simp)⟩, hbl⟩
  · have hb : -1 ≤ V ∧ V ≤ 254 := by unfold rl.badV at h; simp at h; omega
    refine (texts_good T V v ls w hv hb.1 hb.2 hw).mono ?_
    rintro e w' ⟨u, rfl, hown, hbl⟩
    obtain ⟨A, c, rfl⟩ := owns_slice hown
    unfold TextsPost rl.textsL rl.textsE
    rw [if_neg h, if_neg h]
    have hl : (rl.texts T V ls).length = ls.length + 1 := by unfold rl.texts; simp
    rw [hl]
    exact ⟨A, c, rfl, strs_of_owns hl.symm hown, hbl⟩
theorem rtexts_any (T : Nat) (V : Int) (v : Value) (ls : List rl.Ent) (w : World) (hv : Ents w v ls) (hw : Writable T ls) : Calls Try.prog 21 #[stV T V v] w (TextsPost T V ls w) := by
  by_cases h : rl.badV V = true
  · have hb : V < -1 ∨ 254 < V := by unfold rl.badV at h; simpa using h
    refine (rtexts_bad T V v ls w hv hb).mono ?_
    rintro e w' ⟨rfl, hbl⟩
    unfold TextsPost rl.textsL rl.textsE
    rw [if_pos h, if_pos h]
    exact ⟨none, 0, rfl, ⟨none, 0, rfl, fun k hk => absurd hk (by simp)⟩, hbl⟩
  · have hb : -1 ≤ V ∧ V ≤ 254 := by unfold rl.badV at h; simp at h; omega
    refine (rtexts_good T V v ls w hv hb.1 hb.2 hw).mono ?_
    rintro e w' ⟨u, rfl, hown, hbl⟩
    obtain ⟨A, c, rfl⟩ := owns_slice hown
    unfold TextsPost rl.textsL rl.textsE
    rw [if_neg h, if_neg h]
    have hl : (rl.texts T V ls).length = ls.length + 1 := by unfold rl.texts; simp
    rw [hl]
    exact ⟨A, c, rfl, strs_of_owns hl.symm hown, hbl⟩
theorem same_strs {w : World} {a b : Value} {ls : List (List UInt8)} (ha : Strs w a ls) (hb : Strs w b ls) (hl : ls.length ≤ maxLen) :
    Calls Try.prog 24 #[a, b] w fun e w' => e = .returned (.bool true) ∧ Below w.heap.size w w' := by
  refine (same_texts ha hb hl).mono ?_
  rintro e w' ⟨rfl, q, rfl⟩
  exact ⟨by simp, below_drewN (Below.refl _ _) _⟩

set_option maxRecDepth 100000 in
set_option maxHeartbeats 8000000 in
theorem rtexts_law (T : Nat) (V : Int) (v tv : Value) (ls : List rl.Ent) (ts : List (List UInt8)) (w : World) (hv : Ents w v ls) (hf : Fine ls) (ht : Texts w tv ts) (hT : T < 18446744073709551616) :
    Calls Try.prog 7 #[stV T V v, tv] w fun e w' => e = .returned (.bool true) ∧ Below w.heap.size w w' := by
  obtain ⟨hs, htl, htall, A2, c2, hu2, hc2⟩ := ht
  obtain ⟨A, c, hu⟩ := hv.form
  obtain ⟨n, hn⟩ : ∃ n, ls.length = n := ⟨_, rfl⟩
  obtain ⟨m, hm⟩ : ∃ m, ts.length = m := ⟨_, rfl⟩
  rw [hn] at hu
  rw [hm] at hu2 htl hc2
  subst hu
  subst hu2
  unfold maxLen at htl
  have hb := below_box w (.int .u64 (T : Int)) (.int .i64 V) (.slice A n c) 25
  have hx := HBox.new (T := T) (V := V) 25 hv
  obtain ⟨X, hX⟩ : ∃ X, w.alloc (.cells #[.int .u64 (T : Int), .int .i64 V, .slice A n c] 25) = X := ⟨_, rfl⟩
  rw [hX] at hb hx
  have e2 := hs.below hb
  have c1 := bounded_any _ ls X hx.e hf
  have s0 := hx.c0
  have s1 := hx.c1
  have s2 := hx.c2
  have HX := Lib.hid hX
  have HB := Lib.hid hb
  have HS := Lib.hid hx
  have HL := Lib.hid e2
  have Hn := Lib.hid hn
  have Hm := Lib.hid hm
  have Hf := Lib.hid hf
  have HT := Lib.hid hT
  have HTA := Lib.hid htall
  clear hX hb hx hv e2 hn hm hf hs hT htall
  unfold stV
  by_cases ha : okEnts ls = true
  · rw [ha] at c1
    have C1 := Lib.hid c1
    by_cases hm60 : m ≤ 60
    · have hl1 := (ok_bounds ha).1
      have hw : Writable T ls := ⟨HT.out, by omega, fun t h => ⟨(Hf.out.2 t h).1, by have := (ok_bounds ha).2 t h; omega⟩⟩
      rw [Hn.out] at hl1
      have HW := Lib.hid hw
      have hm6 : decide ((60 : Int) < (m : Int)) = false := by simp; omega
      clear c1 ha hw
      go_enter Try.func7, Try.ntmps7
      go_wp2_with fail
      rw [HX.out]
      refine C1.out.mono ?_
      rintro e w1 ⟨rfl, rfl⟩
      go_wp2_with fail
      refine (shown_any _).mono ?_
      rintro e w1 ⟨rfl, hb1⟩
      clear C1 HX
      have hb := HB.out.trans (hb1.mono HB.out.size)
      have hx := HS.out.below hb1
      have e2 := HL.out.below hb1
      clear s0 s1 s2 HB HS HL hb1
      have s0 := hx.c0
      have s1 := hx.c1
      have s2 := hx.c2
      have HB := Lib.hid hb
      have HS := Lib.hid hx
      have HL := Lib.hid e2
      clear hb hx e2
      go_wp2
      go_loop [5] (fun i => ∃ k : Nat, k ≤ m ∧ i = .int .i64 k ∧ ∀ t ∈ ts.take k, t.length ≤ 300) (fun i => m - (intOf i).toNat)
      case atStart => exact ⟨0, Nat.zero_le _, rfl, fun t h => by simp at h⟩
      case round =>
        obtain ⟨k, hk, rfl, hall⟩ := hrel
        have HALL := Lib.hid hall
        clear hall
        by_cases hlt : k < m
        · obtain ⟨ad, rfl, y0⟩ := HL.out.row k hlt
          have hlt' : k < ts.length := by rw [Hm.out]; exact hlt
          have htt := ttake hlt'
          have htm := HTA.out _ (tmem hlt')
          obtain ⟨t, ht⟩ : ∃ t, ts.getD k [] = t := ⟨_, rfl⟩
          rw [ht] at y0 htt htm
          have hi1 : (k : Int) < (m : Int) := by omega
          have hszm : (crcm.mk t).size ≤ 9223372036854775807 := by rw [crcm.mk_size]; unfold maxLen at htm; omega
          have HTT := Lib.hid htt
          clear ht htt htm
          by_cases hlong : 300 < t.length
          · have hsz : 300 < (crcm.mk t).size := by rw [crcm.mk_size]; exact hlong
            go_wp2_with fail
            refine (shown_any _).mono ?_
            rintro e w2 ⟨rfl, hb1⟩
            have HB2 := Lib.hid (HB.out.trans (hb1.mono HB.out.size))
            clear hb1
            go_wp2
            go_ret
            exact ⟨rfl, HB2.out⟩
          · have hsz : ¬ 300 < (crcm.mk t).size := by rw [crcm.mk_size]; exact hlong
            go_wp2
            go_round
            case rel =>
              refine ⟨k + 1, by omega, by go_num, fun x hx => ?_⟩
              rw [HTT.out] at hx
              rcases List.mem_append.1 hx with h | h
              · exact HALL.out x h
              · simp at h; subst h; omega
            case measure => simp [intOf]; omega
        · obtain rfl : k = m := by omega
          have hall := HALL.out
          rw [List.take_of_length_le (by rw [Hm.out]; exact Nat.le_refl _)] at hall
          have HALL := Lib.hid hall
          clear hall
          go_wp2_with fail
          refine (texts_any T V _ ls _ HS.out.e HW.out).mono ?_
          rintro e w2 ⟨Aa, ca, rfl, ha, hb1⟩
          have hb := HB.out.trans (hb1.mono HB.out.size)
          have hx := HS.out.below hb1
          have e2 := HL.out.below hb1
          clear s0 s1 s2 HB HS HL hb1
          have s0 := hx.c0
          have s1 := hx.c1
          have s2 := hx.c2
          have HB := Lib.hid hb
          have HS := Lib.hid hx
          have HL := Lib.hid e2
          clear hb hx e2
          have HA := Lib.hid ha
          clear ha
          obtain ⟨te, hte⟩ : ∃ te, rl.textsE V = te := ⟨_, rfl⟩
          rw [hte]
          have HTE := Lib.hid hte
          clear hte
          go_wp2_with fail
          refine (its_any T V _ ls _ HS.out.e (by rw [Hn.out]; omega)).mono ?_
          rintro e w3 ⟨u, rfl, hE, hb1⟩
          have HA := Lib.hid (HA.out.below hb1)
          have hb := HB.out.trans (hb1.mono HB.out.size)
          have hx := HS.out.below hb1
          have e2 := HL.out.below hb1
          clear s0 s1 s2 HB HS HL hb1
          have s0 := hx.c0
          have s1 := hx.c1
          have s2 := hx.c2
          have HB := Lib.hid hb
          have HS := Lib.hid hx
          have HL := Lib.hid e2
          clear hb hx e2
          go_wp2_with fail
          refine (rtexts_any T V _ ls _ hE HW.out).mono ?_
          clear hE
          rintro e w4 ⟨Ab, cb, rfl, hbb, hb1⟩
          rw [HTE.out]
          have HA := Lib.hid (HA.out.below hb1)
          have hb := HB.out.trans (hb1.mono HB.out.size)
          have hx := HS.out.below hb1
          have e2 := HL.out.below hb1
          clear s0 s1 s2 HB HS HL hb1
          have s0 := hx.c0
          have s1 := hx.c1
          have s2 := hx.c2
          have HB := Lib.hid hb
          have HS := Lib.hid hx
          have HL := Lib.hid e2
          clear hb hx e2
          have HBB := Lib.hid hbb
          clear hbb
          go_wp2_with fail
          refine (from_any _ ts _ HL.out (by rw [Hm.out]; omega) (fun t h => by have := HALL.out t h; unfold maxLen; omega)).mono ?_
          rintro e w5 ⟨ux, rfl, hE1, hb1⟩
          have HA := Lib.hid (HA.out.below hb1)
          have HBB := Lib.hid (HBB.out.below hb1)
          have hb := HB.out.trans (hb1.mono HB.out.size)
          have hx := HS.out.below hb1
          have e2 := HL.out.below hb1
          clear s0 s1 s2 HB HS HL hb1
          have s0 := hx.c0
          have s1 := hx.c1
          have s2 := hx.c2
          have HB := Lib.hid hb
          have HS := Lib.hid hx
          have HL := Lib.hid e2
          clear hb hx e2
          have hfl := rl.from_len ts
          rw [Hm.out] at hfl
          obtain ⟨⟨⟨Tx, Vx, Lx⟩, ex⟩, hfr⟩ : ∃ z, rl.from_ ts = z := ⟨_, rfl⟩
          rw [hfr] at hE1 hfl ⊢
          dsimp only at hE1 hfl ⊢
          have HFR := Lib.hid hfr
          clear hfr
          obtain ⟨Ax, cx, hux⟩ := hE1.form
          obtain ⟨nx, hnx⟩ : ∃ nx, Lx.length = nx := ⟨_, rfl⟩
          rw [hnx] at hux hfl
          subst hux
          have HNX := Lib.hid hnx
          have hbx := HBox.new (T := Tx) (V := Vx) 25 hE1
          have hb1 := below_box w5 (.int .u64 (Tx : Int)) (.int .i64 Vx) (.slice Ax nx cx) 25
          have HA := Lib.hid (HA.out.below hb1)
          have HBB := Lib.hid (HBB.out.below hb1)
          have hb := HB.out.trans (hb1.mono HB.out.size)
          have hx := HS.out.below hb1
          have e2 := HL.out.below hb1
          clear s0 s1 s2 HB HS HL hb1
          have s0 := hx.c0
          have s1 := hx.c1
          have s2 := hx.c2
          have HB := Lib.hid hb
          have HS := Lib.hid hx
          have HL := Lib.hid e2
          clear hb hx e2
          have HXB := Lib.hid hbx
          clear hbx hE1 hnx
          unfold stV
          go_wp2_with fail
          obtain ⟨G1, hG1⟩ : ∃ g, w5.heap.size = g := ⟨_, rfl⟩
          obtain ⟨Y1, hY1⟩ : ∃ Y, w5.alloc (.cells #[.int .u64 (Tx : Int), .int .i64 Vx, .slice Ax nx cx] 25) = Y := ⟨_, rfl⟩
          have hm := HXB.out
          rw [hY1] at s0 s1 s2 HS HL HB HA HBB hm ⊢
          rw [hG1] at hm ⊢
          have HXB := Lib.hid hm
          clear hm hG1 hY1
          refine (rfrom_any _ ts _ HL.out (by rw [Hm.out]; omega) (fun t h => by have := HALL.out t h; unfold maxLen; omega)).mono ?_
          rintro e w6 ⟨uy, rfl, hE2, hb1⟩
          rw [HFR.out] at hE2 ⊢
          dsimp only at hE2 ⊢
          obtain ⟨Ay, cy, huy⟩ := hE2.form
          rw [HNX.out] at huy
          subst huy
          have HA := Lib.hid (HA.out.below hb1)
          have HBB := Lib.hid (HBB.out.below hb1)
          have HXB := Lib.hid (HXB.out.below hb1)
          have hb := HB.out.trans (hb1.mono HB.out.size)
          have hx := HS.out.below hb1
          have e2 := HL.out.below hb1
          clear s0 s1 s2 HB HS HL hb1
          have s0 := hx.c0
          have s1 := hx.c1
          have s2 := hx.c2
          have HB := Lib.hid hb
          have HS := Lib.hid hx
          have HL := Lib.hid e2
          clear hb hx e2
          have hbx := HBox.new (T := Tx) (V := Vx) 38 hE2
          have hb1 := below_box w6 (.int .u64 (Tx : Int)) (.int .i64 Vx) (.slice Ay nx cy) 38
          have HA := Lib.hid (HA.out.below hb1)
          have HBB := Lib.hid (HBB.out.below hb1)
          have HXB := Lib.hid (HXB.out.below hb1)
          have hb := HB.out.trans (hb1.mono HB.out.size)
          have hx := HS.out.below hb1
          have e2 := HL.out.below hb1
          clear s0 s1 s2 HB HS HL hb1
          have s0 := hx.c0
          have s1 := hx.c1
          have s2 := hx.c2
          have HB := Lib.hid hb
          have HS := Lib.hid hx
          have HL := Lib.hid e2
          clear hb hx e2
          have HYB := Lib.hid hbx
          clear hbx hE2
          unfold stV
          go_wp2_with fail
          have hxb := HXB.out
          have hyb := HYB.out
          obtain ⟨G2, hG2⟩ : ∃ g, w6.heap.size = g := ⟨_, rfl⟩
          obtain ⟨Y3, hY3⟩ : ∃ Y, w6.alloc (.cells #[.int .u64 (Tx : Int), .int .i64 Vx, .slice Ay nx cy] 38) = Y := ⟨_, rfl⟩
          rw [hY3] at s0 s1 s2 HS HB HA HBB hxb hyb ⊢
          rw [hG2] at hyb ⊢
          have hs := HS.out
          have MK : Hid (∀ w', Below Y3.heap.size Y3 w' → w'.cell? ⟨w.heap.size, 0, none⟩ = some (.int .u64 (T : Int)) ∧ w'.cell? ⟨w.heap.size, 1, none⟩ = some (.int .i64 V) ∧ w'.cell? ⟨w.heap.size, 2, none⟩ = some (.slice A n c) ∧
            w'.cell? ⟨G1, 0, none⟩ = some (.int .u64 (Tx : Int)) ∧ w'.cell? ⟨G1, 1, none⟩ = some (.int .i64 Vx) ∧ w'.cell? ⟨G1, 2, none⟩ = some (.slice Ax nx cx) ∧
            w'.cell? ⟨G2, 0, none⟩ = some (.int .u64 (Tx : Int)) ∧ w'.cell? ⟨G2, 1, none⟩ = some (.int .i64 Vx) ∧ w'.cell? ⟨G2, 2, none⟩ = some (.slice Ay nx cy)) := Lib.hid (fun w' h =>
            ⟨cell_later h hs.c0, cell_later h hs.c1, cell_later h hs.c2, cell_later h hxb.c0, cell_later h hxb.c1, cell_later h hxb.c2, cell_later h hyb.c0, cell_later h hyb.c1, cell_later h hyb.c2⟩)
          have E0 := Lib.hid hxb.e
          have E1 := Lib.hid hyb.e
          have hW : Below Y3.heap.size Y3 Y3.drew := below_drewN (Below.refl _ Y3) 1
          have g6 : ((te : Int) != (te : Int)) = false := by simp
          have g7 : ((ex : Int) != (ex : Int)) = false := by simp
          obtain ⟨tl, htxl⟩ : ∃ tl, (rl.textsL T V ls).length = tl := ⟨_, rfl⟩
          have HTXL := Lib.hid htxl
          have htl2 : tl ≤ 61 := by
            rw [← htxl]
            unfold rl.textsL
            split
            · simp
            · unfold rl.texts; rw [List.length_cons, List.length_map, Hn.out]; omega
          rw [htxl] at HA HBB ⊢
          have HTL2 := Lib.hid htl2
          clear hxb hyb hs hG2 hY3 HXB HYB s0 s1 s2 htxl htl2
          go_region_held3 (fun w' => w'.cell? ⟨w.heap.size, 0, none⟩ = some (.int .u64 (T : Int)) ∧ w'.cell? ⟨w.heap.size, 1, none⟩ = some (.int .i64 V) ∧ w'.cell? ⟨w.heap.size, 2, none⟩ = some (.slice A n c) ∧
            w'.cell? ⟨G1, 0, none⟩ = some (.int .u64 (Tx : Int)) ∧ w'.cell? ⟨G1, 1, none⟩ = some (.int .i64 Vx) ∧ w'.cell? ⟨G1, 2, none⟩ = some (.slice Ax nx cx) ∧
            w'.cell? ⟨G2, 0, none⟩ = some (.int .u64 (Tx : Int)) ∧ w'.cell? ⟨G2, 1, none⟩ = some (.int .i64 Vx) ∧ w'.cell? ⟨G2, 2, none⟩ = some (.slice Ay nx cy))
            (exact MK.out _ hW)
            (first | (go_at_call 24; refine (same_strs (HA.out.below hW) (HBB.out.below hW) (by rw [HTXL.out]; unfold maxLen; have := HTL2.out; omega)).mono ?_; rintro e w8 ⟨rfl, hb⟩; have hW := hW.trans (hb.mono hW.size)) | (go_at_call 13; refine (its_any Tx Vx _ Lx _ (E0.out.below hW) (by rw [HNX.out]; omega)).mono ?_; rintro e w8 ⟨u, rfl, hE, hb⟩; have hW := hW.trans (hb.mono hW.size); obtain ⟨Au, ku, hu⟩ := hE.form; subst hu; unfold stV) | (go_at_call 12; refine (same_self Tx Vx _ _ Lx _ hE (E1.out.below hW) (by rw [HNX.out]; omega)).mono ?_; rintro e w8 ⟨rfl, hb⟩; have hW := hW.trans (hb.mono hW.size)))
          all_goals
            have hB8 := HB.out.trans (hW.mono HB.out.size)
            have hA8 := HA.out.below hW
            have hS8 := HS.out.below hW
            have HB8 := Lib.hid hB8
            have HA8 := Lib.hid hA8
            have HS8 := Lib.hid hS8
            have c0 := hS8.c0
            have c1' := hS8.c1
            have c2' := hS8.c2
            clear hB8 hA8 hS8 hW hb hE MK g6 g7
            simp only [Exit.then]
            by_cases hbv : rl.badV V = true
            · have hte1 : te = 1 := by rw [← HTE.out]; unfold rl.textsE; rw [if_pos hbv]
              have htl0 : tl = 0 := by rw [← HTXL.out]; unfold rl.textsL; rw [if_pos hbv]; rfl
              subst hte1
              subst htl0
              go_wp2
              go_ret
              exact ⟨rfl, HB8.out⟩
            · have hte0 : te = 0 := by rw [← HTE.out]; unfold rl.textsE; rw [if_neg hbv]
              have htx : rl.textsL T V ls = rl.texts T V ls := by unfold rl.textsL; rw [if_neg hbv]
              have hbv2 : -1 ≤ V ∧ V ≤ 254 := by unfold rl.badV at hbv; simp at hbv; omega
              have hfr := rl.from_texts T V ls HT.out hbv2.1 hbv2.2 (fun t h => ⟨(HW.out.2.2 t h).1, (HW.out.2.2 t h).2⟩)
              have htxl : (rl.texts T V ls).length = tl := by rw [← htx]; exact HTXL.out
              have hall2 : ∀ t ∈ rl.texts T V ls, t.length ≤ maxLen := by
                intro t ht
                unfold rl.texts at ht
                rcases List.mem_cons.1 ht with rfl | h
                · exact (show 9 ≤ maxLen by unfold maxLen; omega)
                · obtain ⟨x, hx, rfl⟩ := List.mem_map.1 h
                  have := (HW.out.2.2 x hx).2
                  unfold rl.enc maxLen
                  rw [List.length_append, rl.le8_len]
                  omega
              have ha8 := HA8.out
              rw [htx] at ha8
              have hfa := from_any _ (rl.texts T V ls) w8 ha8 (by rw [htxl]; have := HTL2.out; omega) hall2
              unfold FromPost at hfa
              rw [hfr] at hfa
              dsimp only at hfa
              have HFA := Lib.hid hfa
              subst hte0
              clear hfr htx htxl hall2 ha8 hfa hbv hbv2
              go_wp2_with fail
              refine HFA.out.mono ?_
              rintro e w9 ⟨uz, rfl, hEz, hb1⟩
              obtain ⟨Az, cz, huz⟩ := hEz.form
              rw [Hn.out] at huz
              subst huz
              have hs9 := HS8.out.below hb1
              have hB9 := HB8.out.trans (hb1.mono HB8.out.size)
              have hbz := HBox.new (T := T) (V := V) 25 hEz
              have hb1 := below_box w9 (.int .u64 (T : Int)) (.int .i64 V) (.slice Az n cz) 25
              have hs10 := hs9.below hb1
              have hB10 := hB9.trans (hb1.mono hB9.size)
              have HS10 := Lib.hid hs10
              have HB10 := Lib.hid hB10
              have HZ := Lib.hid hbz
              clear hs9 hB9 hs10 hB10 hbz hb1 hEz c0 c1' c2'
              unfold stV
              go_wp2
              have hs := HS10.out
              have hz := HZ.out
              obtain ⟨G3, hG3⟩ : ∃ g, w9.heap.size = g := ⟨_, rfl⟩
              obtain ⟨Y4, hY4⟩ : ∃ Y, w9.alloc (.cells #[.int .u64 (T : Int), .int .i64 V, .slice Az n cz] 25) = Y := ⟨_, rfl⟩
              rw [hY4] at hs hz HB10 ⊢
              rw [hG3] at hz ⊢
              have MK : Hid (∀ w', Below Y4.heap.size Y4 w' → w'.cell? ⟨w.heap.size, 0, none⟩ = some (.int .u64 (T : Int)) ∧ w'.cell? ⟨w.heap.size, 1, none⟩ = some (.int .i64 V) ∧ w'.cell? ⟨w.heap.size, 2, none⟩ = some (.slice A n c) ∧
                w'.cell? ⟨G3, 0, none⟩ = some (.int .u64 (T : Int)) ∧ w'.cell? ⟨G3, 1, none⟩ = some (.int .i64 V) ∧ w'.cell? ⟨G3, 2, none⟩ = some (.slice Az n cz)) := Lib.hid (fun w' h =>
                ⟨cell_later h hs.c0, cell_later h hs.c1, cell_later h hs.c2, cell_later h hz.c0, cell_later h hz.c1, cell_later h hz.c2⟩)
              have E2 := Lib.hid hs.e
              have E3 := Lib.hid hz.e
              have hW : Below Y4.heap.size Y4 Y4.drew := below_drewN (Below.refl _ Y4) 1
              clear hs hz hG3 hY4 HS10 HZ
              go_region_held3 (fun w' => w'.cell? ⟨w.heap.size, 0, none⟩ = some (.int .u64 (T : Int)) ∧ w'.cell? ⟨w.heap.size, 1, none⟩ = some (.int .i64 V) ∧ w'.cell? ⟨w.heap.size, 2, none⟩ = some (.slice A n c) ∧
                w'.cell? ⟨G3, 0, none⟩ = some (.int .u64 (T : Int)) ∧ w'.cell? ⟨G3, 1, none⟩ = some (.int .i64 V) ∧ w'.cell? ⟨G3, 2, none⟩ = some (.slice Az n cz))
                (exact MK.out _ hW)
                (first | (go_at_call 13; refine (its_any T V _ ls _ ?_ (by rw [Hn.out]; omega)).mono ?_; (first | exact E2.out.below hW | exact E3.out.below hW); rintro e w6 ⟨u, rfl, hE, hb⟩; (try have hE0' := Ents.below hE0 hb); have hE0 := hE; have hW := hW.trans (hb.mono hW.size); obtain ⟨Au, ku, hu⟩ := hE.form; subst hu; unfold stV) | (go_at_call 12; refine (same_self T V _ _ ls _ ?_ ?_ (by rw [Hn.out]; omega)).mono ?_; (first | exact hE0 | exact hE0'); (first | exact hE0 | exact hE0'); rintro e w6 ⟨rfl, hb⟩; have hW := hW.trans (hb.mono hW.size)))
              all_goals
                have HFIN := Lib.hid (HB10.out.trans (hW.mono HB10.out.size))
                clear hW hb hE hE0 hE0'
                simp only [Exit.then]
                go_wp2
                go_ret
                exact ⟨rfl, HFIN.out⟩
    · have hm6 : decide ((60 : Int) < (m : Int)) = true := by simp; omega
      clear c1 ha
      go_enter Try.func7, Try.ntmps7
      go_wp2_with fail
      rw [HX.out]
      refine C1.out.mono ?_
      rintro e w1 ⟨rfl, rfl⟩
      go_wp2_with fail
      refine (shown_any _).mono ?_
      rintro e w1 ⟨rfl, hb1⟩
      have HB2 := Lib.hid (HB.out.trans (hb1.mono HB.out.size))
      clear hb1
      go_wp2
      go_ret
      exact ⟨rfl, HB2.out⟩
  · rw [Bool.not_eq_true] at ha
    rw [ha] at c1
    have C1 := Lib.hid c1
    clear c1 ha
    go_enter Try.func7, Try.ntmps7
    go_wp2_with fail
    rw [HX.out]
    refine C1.out.mono ?_
    rintro e w1 ⟨rfl, rfl⟩
    go_wp2_with fail
    refine (shown_any _).mono ?_
    rintro e w1 ⟨rfl, hb1⟩
    have HB2 := Lib.hid (HB.out.trans (hb1.mono HB.out.size))
    clear hb1
    go_wp2
    go_ret
    exact ⟨rfl, HB2.out⟩
end Go.Proofs.Ytgaamknkigdoeaa
