/- WalNames walked where there are two logs that have nothing in common. -/
import Derived.Test.YtdnoeahhidmkbaaDoorWlShown
import Derived.Test.YtdnoeahhidmkbaaDoorWlTwo
namespace Go.Proofs.YtdnoeahhidmkbaaDoor
open Go Go.RowKit
set_option maxRecDepth 100000

theorem Lg.apart3 {w w' : World} {p b g g2 : Nat} {d : vd.Disk} {l : wl.L} (h : Lg w g2 p l) (hA : Apart [p, b, g] w w') (hd : Dk w p b d) (hne : g2 ≠ g) : Lg w' g2 p l :=
  Vb.apart h hA (by have := log_out h hd; simp at this ⊢; exact ⟨this.1, this.2, hne⟩)
set_option maxHeartbeats 8000000 in
theorem names_two (a b x y : List UInt8) (w : World) (ha : a.length ≤ 200) (hb : b.length ≤ 200) (hx : x.length ≤ 200) (hy : y.length ≤ 200) (hea : wl.openE a = true) (heb : wl.openE b = true) (h1 : ¬ a = b) (h2 : ¬ a = b ++ [43]) (h3 : ¬ b = a ++ [43]) (ht : TabAt w) :
    Calls Tryd.prog 3 #[.string (crcm.mk a), .string (crcm.mk b), .string (crcm.mk x), .string (crcm.mk y)] w fun e w' => e = .returned (.bool true) ∧ Below w.heap.size w w' := by
  have hs := wal_shown w ht
  obtain ⟨NA, hNA⟩ : ∃ N, a.length = N := ⟨_, rfl⟩
  obtain ⟨NB, hNB⟩ : ∃ N, b.length = N := ⟨_, rfl⟩
  obtain ⟨NX, hNX⟩ : ∃ N, x.length = N := ⟨_, rfl⟩
  obtain ⟨NY, hNY⟩ : ∃ N, y.length = N := ⟨_, rfl⟩
  have za : (crcm.mk a).size = NA := by rw [crcm.mk_size, hNA]
  have zb : (crcm.mk b).size = NB := by rw [crcm.mk_size, hNB]
  have zx : (crcm.mk x).size = NX := by rw [crcm.mk_size, hNX]
  have zy : (crcm.mk y).size = NY := by rw [crcm.mk_size, hNY]
  have HA := Lib.hid hNA
  have HB := Lib.hid hNB
  have HX := Lib.hid hNX
  have HY := Lib.hid hNY
  have LA := Lib.hid ha
  have LB := Lib.hid hb
  rw [hNA] at ha
  rw [hNB] at hb
  rw [hNX] at hx
  rw [hNY] at hy
  have HT := Lib.hid ht
  clear hNA hNB hNX hNY ht
  have hla := wl.openE_len hea
  rw [HA.out] at hla
  have hlb := wl.openE_len heb
  rw [HB.out] at hlb
  have HQ := Lib.hid (wl.st_new (c := 100000) (k := 0) hea (by omega))
  have hcatb : crcm.mk b ++ ⟨#[43]⟩ = crcm.mk (b ++ [43]) := by rw [← crcm.mk_append]; rfl
  have hcata : crcm.mk a ++ ⟨#[43]⟩ = crcm.mk (a ++ [43]) := by rw [← crcm.mk_append]; rfl
  have zp : ByteArray.size ⟨#[43]⟩ = 1 := rfl
  have hnoa : ¬ 9223372036854775807 < NA + 1 := by omega
  have hnob : ¬ 9223372036854775807 < NB + 1 := by omega
  have hbe : ∀ s t : List UInt8, ((crcm.mk s).toList == (crcm.mk t).toList) = decide (s = t) := by
    intro s t
    rw [mk_toL, mk_toL]
    by_cases h : s = t
    · subst h; simp
    · rw [decide_eq_false h, beq_eq_false_iff_ne]; exact h
  have k1 := hbe a b
  have k2 := hbe a (b ++ [43])
  have k3 := hbe b (a ++ [43])
  clear hbe
  rw [decide_eq_false h1] at k1
  rw [decide_eq_false h2] at k2
  rw [decide_eq_false h3] at k3
  have Q1 := Lib.hid (wl.st_second (c := 100000) h1 h2 hea heb (by omega))
  have fx : (crcm.flat [x]).length = 6 + NX := by rw [← HX.out]; simp [crcm.flat, crcm.body_len]
  have fy : (crcm.flat [y]).length = 6 + NY := by rw [← HY.out]; simp [crcm.flat, crcm.body_len]
  have tx : ∀ t ∈ [x], t.length ≤ 65535 := by simp; rw [HX.out]; omega
  have ty : ∀ t ∈ [y], t.length ≤ 65535 := by simp; rw [HY.out]; omega
  have txy : ∀ t ∈ [x, y], t.length ≤ 65535 := by simp; rw [HX.out, HY.out]; omega
  have Q2 := Lib.hid (wl.tw_append1 (c := 100000) (a := a) (b := b) (x := []) (y := []) (l := ⟨a, 0, false⟩) rfl rfl hea [x] tx (by rw [fx]; simp; omega))
  have Q3 := Lib.hid (wl.tw_append2 (c := 100000) (a := a) (b := b) (x := [] ++ crcm.flat [x]) (y := []) (l := ⟨b, 0, false⟩) h1 rfl rfl heb [y] ty (by rw [List.nil_append, fx, fy]; simp; omega))
  have Q4 := Lib.hid (wl.tw_append1 (c := 100000) (a := a) (b := b) (x := [] ++ crcm.flat [x]) (y := [] ++ crcm.flat [y]) (l := ⟨a, 1, false⟩) rfl rfl hea [y] ty (by rw [List.nil_append, List.nil_append, fx, fy]; omega))
  have e4 : ([] ++ crcm.flat [x]) ++ crcm.flat [y] = crcm.flat [x, y] := by rw [List.nil_append, ← crcm.flat_append]; rfl
  rw [e4] at Q4
  have Q5 := Lib.hid (wl.tw_open1 (c := 100000) (a := a) (b := b) (y := [] ++ crcm.flat [y]) hea [x, y] txy)
  have Q6 := Lib.hid (wl.tw_open2 (c := 100000) (a := a) (b := b) (x := crcm.flat [x, y]) h1 heb [y] ty)
  have F1 : Hid ((crcm.flat [x]).length ≤ 1000000000) := Lib.hid (by rw [fx]; omega)
  have F2 : Hid ((crcm.flat [y]).length ≤ 1000000000) := Lib.hid (by rw [fy]; omega)
  clear h1 h2 h3 fx fy tx ty txy e4 heb hea
  go_enter Tryd.func3, Tryd.ntmps3
  go_wp2_with fail
  refine hs.mono ?_
  rintro e w1 ⟨rfl, hb1⟩
  clear hs
  go_wp2_with fail
  refine (ld_new 100000 (by omega) hb1).mono ?_
  rintro e w2 ⟨p, q, rfl, hd2, hb2⟩
  clear hb1
  have hO := ld_open a hd2 LA.out HT.out
  go_wp2_with fail
  refine hO.mono ?_
  rintro e w3 h
  obtain ⟨A, c, g, rfl, hd3, hA3, hg3, _, hl3⟩ := h.ok HQ.out
  have hO2 := ld_open b hd3 LB.out HT.out
  clear hO h
  go_wp2_with fail
  refine hO2.mono ?_
  rintro e w4 h
  obtain ⟨A2, c2, g2, rfl, hd4, hA4, hg4, _, hl4⟩ := h.ok Q1.out
  have hl4 : Lg w4 g2 p ⟨b, 0, false⟩ := hl4
  have hl4a : Lg w4 g p ⟨a, 0, false⟩ := hl3.apart hA4 (log_out hl3 hd3.dk)
  have hgg : g ≠ g2 := by have := hl3.lt; omega
  have G1 : Hid (w.heap.size ≤ g) := Lib.hid (by have := hd2.bel.size; omega)
  have G2 : Hid (w.heap.size ≤ g2) := Lib.hid (by have := hd3.bel.size; omega)
  obtain ⟨W4, hW4⟩ : ∃ W, w4.alloc (.cells #[.string (crcm.mk x)] 9) = W := ⟨_, rfl⟩
  have bW4 : Below w4.heap.size w4 W4 := by rw [← hW4]; exact (Below.refl _ w4).alloc (Nat.le_refl _) _
  have sW4 : Strs W4 (.slice (some ⟨w4.heap.size, 0, none⟩) 1 1) [x] := by rw [← hW4]; exact strs_new w4 [x] _ rfl
  have hc4 := ld_append _ _ (hd4.later bW4) ((bW4.block _ hl4a.lt).trans hl4a) G1.out sW4 F1.out (by simp) LA.out (by simp) HT.out
  rw [Q2.out] at hc4
  have hdW4 := hd4.later bW4
  have hl4b : Lg W4 g2 p ⟨b, 0, false⟩ := (bW4.block _ hl4.lt).trans hl4
  clear hO2 h hd3 hd2 hA3 hA4 hb2 hl3 sW4 bW4 hl4 hl4a hd4 hg4
  go_wp2_with fail
  refine hc4.mono ?_
  rintro e w5 ⟨rfl, hd5, hl5, hA5⟩
  have hl5b : Lg w5 g2 p ⟨b, 0, false⟩ := hl4b.apart3 hA5 hdW4.dk (fun e => hgg e.symm)
  obtain ⟨W5, hW5⟩ : ∃ W, w5.alloc (.cells #[.string (crcm.mk y)] 9) = W := ⟨_, rfl⟩
  have bW5 : Below w5.heap.size w5 W5 := by rw [← hW5]; exact (Below.refl _ w5).alloc (Nat.le_refl _) _
  have sW5 : Strs W5 (.slice (some ⟨w5.heap.size, 0, none⟩) 1 1) [y] := by rw [← hW5]; exact strs_new w5 [y] _ rfl
  have hc5 := ld_append _ _ (hd5.later bW5) ((bW5.block _ hl5b.lt).trans hl5b) G2.out sW5 F2.out (by simp) LB.out (by simp) HT.out
  rw [Q3.out] at hc5
  have hl5c : Lg W5 g p ⟨a, 1, false⟩ := (bW5.block _ hl5.lt).trans hl5
  have hdW5 := hd5.later bW5
  clear hc4 hA5 hl4b hdW4 sW5 bW5 hl5 hl5b hd5 hW4
  go_wp2_with fail
  refine hc5.mono ?_
  rintro e w6 ⟨rfl, hd6, hl6, hA6⟩
  have hl6b : Lg w6 g p ⟨a, 1, false⟩ := hl5c.apart3 hA6 hdW5.dk hgg
  obtain ⟨W6, hW6⟩ : ∃ W, w6.alloc (.cells #[.string (crcm.mk y)] 9) = W := ⟨_, rfl⟩
  have bW6 : Below w6.heap.size w6 W6 := by rw [← hW6]; exact (Below.refl _ w6).alloc (Nat.le_refl _) _
  have sW6 : Strs W6 (.slice (some ⟨w6.heap.size, 0, none⟩) 1 1) [y] := by rw [← hW6]; exact strs_new w6 [y] _ rfl
  have hc6 := ld_append _ _ (hd6.later bW6) ((bW6.block _ hl6b.lt).trans hl6b) G1.out sW6 F2.out (by simp) LA.out (by simp) HT.out
  rw [Q4.out] at hc6
  clear hc5 hA6 hl5c hdW5 sW6 bW6 hl6 hl6b hd6 hW5
  go_wp2_with fail
  refine hc6.mono ?_
  rintro e w7 ⟨rfl, hd7, hl7, hA7⟩
  have hO := ld_open a hd7 LA.out HT.out
  clear hc6 hA7 hl7 hW6
  go_wp2_with fail
  refine hO.mono ?_
  rintro e w8 h
  obtain ⟨A3, c3, g3, rfl, hd8, hA8, hg8, hk8, hl8⟩ := h.ok Q5.out
  have hO2 := ld_open b hd8 LB.out HT.out
  clear hO h
  go_wp2_with fail
  refine hO2.mono ?_
  rintro e w9 h
  obtain ⟨A4, c4, g4, rfl, hd9, hA9, hg9, hk9, hl9⟩ := h.ok Q6.out
  have s1 := hk8 w9 (hA9.mono (by simp))
  have s2 := hk9 w9 (.refl _ _)
  have B9 := Lib.hid hd9.bel
  clear hO2 h hk8 hk9 hd8 hA8 hA9 hl8 hl9 hd7
  go_wp2_with fail
  have bW9 : Below w9.heap.size w9 (w9.alloc (.cells #[.string (crcm.mk x), .string (crcm.mk y)] 9)) := (Below.refl _ w9).alloc (Nat.le_refl _) _
  refine (same_texts (s1.below bW9) (strs_new w9 [x, y] _ rfl) (by simp [maxLen])).mono ?_
  rintro e w10 ⟨rfl, q10, hq⟩
  have b10 : Below w9.heap.size w9 w10 := by rw [← hq]; exact below_drewN bW9 _
  have s3 := s2.below b10
  rw [decide_eq_true rfl]
  clear hq bW9 s1 s2
  go_wp2_with fail
  have bW10 : Below w10.heap.size w10 (w10.alloc (.cells #[.string (crcm.mk y)] 9)) := (Below.refl _ w10).alloc (Nat.le_refl _) _
  refine (same_texts (s3.below bW10) (strs_new w10 [y] _ rfl) (by simp [maxLen])).mono ?_
  rintro e w11 ⟨rfl, q11, hq⟩
  have b11 : Below w10.heap.size w10 w11 := by rw [← hq]; exact below_drewN bW10 _
  rw [decide_eq_true rfl]
  clear hq bW10 s3
  go_wp2_with fail
  go_ret
  have h1 := B9.out.size
  have h2 := b10.size
  exact ⟨rfl, (B9.out.trans (b10.mono h1)).trans (b11.mono (by omega))⟩
end Go.Proofs.YtdnoeahhidmkbaaDoor
