/- WalNames walked: whatever comes in, it returns true. -/
import Derived.Test.YtdnoeahhidmkbaaDoorWlShown
import Derived.Test.YtdnoeahhidmkbaaDoorWlTwo
import Derived.Test.YtdnoeahhidmkbaaDoorWlNamesTwo
namespace Go.Proofs.YtdnoeahhidmkbaaDoor
open Go Go.RowKit
set_option maxRecDepth 100000

set_option maxHeartbeats 8000000 in
theorem names_long (a b x y : ByteArray) (w : World) (h : 200 < a.size ∨ 200 < b.size ∨ 200 < x.size ∨ 200 < y.size) (ht : TabAt w) :
    Calls Tryd.prog 3 #[.string a, .string b, .string x, .string y] w fun e w' => e = .returned (.bool true) ∧ Below w.heap.size w w' := by
  have hs := wal_shown w ht
  by_cases ha : 200 < a.size
  · have hai : (200 : Int) < (a.size : Int) := by omega
    clear h
    go_enter Tryd.func3, Tryd.ntmps3
    go_wp2_with fail
    refine hs.mono ?_
    rintro e w1 ⟨rfl, hb⟩
    go_wp2_with fail
    go_ret
    exact ⟨rfl, hb⟩
  · have hai : ¬ (200 : Int) < (a.size : Int) := by omega
    by_cases hb : 200 < b.size
    · have hbi : (200 : Int) < (b.size : Int) := by omega
      clear h
      go_enter Tryd.func3, Tryd.ntmps3
      go_wp2_with fail
      refine hs.mono ?_
      rintro e w1 ⟨rfl, hb⟩
      go_wp2_with fail
      go_ret
      exact ⟨rfl, hb⟩
    · have hbi : ¬ (200 : Int) < (b.size : Int) := by omega
      by_cases hx : 200 < x.size
      · have hxi : (200 : Int) < (x.size : Int) := by omega
        clear h
        go_enter Tryd.func3, Tryd.ntmps3
        go_wp2_with fail
        refine hs.mono ?_
        rintro e w1 ⟨rfl, hb⟩
        go_wp2_with fail
        go_ret
        exact ⟨rfl, hb⟩
      · have hxi : ¬ (200 : Int) < (x.size : Int) := by omega
        have hyi : (200 : Int) < (y.size : Int) := by omega
        clear h
        go_enter Tryd.func3, Tryd.ntmps3
        go_wp2_with fail
        refine hs.mono ?_
        rintro e w1 ⟨rfl, hb⟩
        go_wp2_with fail
        go_ret
        exact ⟨rfl, hb⟩
set_option maxHeartbeats 8000000 in
theorem names_few (a b x y : List UInt8) (w : World) (ha : a.length ≤ 200) (hb : b.length ≤ 200) (hx : x.length ≤ 200) (hy : y.length ≤ 200) (hnot : ¬ (wl.openE a = true ∧ wl.openE b = true ∧ ¬ (a = b ∨ a = b ++ [43] ∨ b = a ++ [43]))) (ht : TabAt w) :
    Calls Tryd.prog 3 #[.string (crcm.mk a), .string (crcm.mk b), .string (crcm.mk x), .string (crcm.mk y)] w fun e w' => e = .returned (.bool true) ∧ Below w.heap.size w w' := by
  have hs := wal_shown w ht
  obtain ⟨NA, hNA⟩ : ∃ N, a.length = N := ⟨_, rfl⟩
  obtain ⟨NB, hNB⟩ : ∃ N, b.length = N := ⟨_, rfl⟩
  obtain ⟨NX, hNX⟩ : ∃ N, x.length = N := ⟨_, rfl⟩
  obtain ⟨NY, hNY⟩ : ∃ N, y.length = N := ⟨_, rfl⟩
  have za : (crcm.mk a).size = NA := by rw [crcm.mk_size, hNA]
  have zb : (crcm.mk b).size = NB := by rw [crcm.mk_size, hNB]
  have zx : (crcm.mk x).size = NX := by rw [crcm.mk_size, hNX]
  have zy : (crcm.mk y).size = NY := by rw [crcm.mk_size, hNY]
  have HA := Lib.hid hNA
  have HB := Lib.hid hNB
  have HX := Lib.hid hNX
  have HY := Lib.hid hNY
  have LA := Lib.hid ha
  have LB := Lib.hid hb
  rw [hNA] at ha
  rw [hNB] at hb
  rw [hNX] at hx
  rw [hNY] at hy
  have HT := Lib.hid ht
  have HNOT := Lib.hid hnot
  clear hNA hNB hNX hNY ht hnot
  go_enter Tryd.func3, Tryd.ntmps3
  go_wp2_with fail
  refine hs.mono ?_
  rintro e w1 ⟨rfl, hb1⟩
  clear hs
  go_wp2_with fail
  refine (ld_new 100000 (by omega) hb1).mono ?_
  rintro e w2 ⟨p, q, rfl, hd2, hb2⟩
  clear hb1
  have hO := ld_open a hd2 LA.out HT.out
  cases hea : wl.openE a with
  | false =>
    have hno := wl.openE_not hea
    rw [HA.out] at hno
    have HBAD := Lib.hid (wl.open_bad (d := ⟨100000, [], false, 0, 0⟩) hea)
    clear hea
    go_wp2_with fail
    refine hO.mono ?_
    rintro e w3 h
    obtain ⟨A, c, rfl, hd3, hA3⟩ := h.no HBAD.out (by simp)
    have hO2 := ld_open b hd3 LB.out HT.out
    clear hO h
    cases heb : wl.openE b with
    | false =>
      have hnob := wl.openE_not heb
      rw [HB.out] at hnob
      have HBB := Lib.hid (wl.open_bad (d := ⟨100000, [], false, 0, 0⟩) heb)
      clear heb
      go_wp2_with fail
      refine hO2.mono ?_
      rintro e w4 h
      obtain ⟨A2, c2, rfl, hd4, hA4⟩ := h.no HBB.out (by simp)
      clear hO2 h hd3 hd2 hA3 hA4 hb2
      have HB4 := Lib.hid hd4.bel
      clear hd4
      rcases hno with h1 | h1 <;> rcases hnob with h2 | h2
      all_goals (go_wp2_with fail; go_ret; exact ⟨rfl, HB4.out⟩)
    | true =>
      have hlb := wl.openE_len heb
      rw [HB.out] at hlb
      have HBB := Lib.hid (wl.st_new (c := 100000) (k := 0) heb (by omega))
      clear heb
      go_wp2_with fail
      refine hO2.mono ?_
      rintro e w4 h
      obtain ⟨A2, c2, g2, rfl, hd4, hA4, _, _, _⟩ := h.ok HBB.out
      clear hO2 h hd3 hd2 hA3 hA4 hb2
      have HB4 := Lib.hid hd4.bel
      clear hd4
      rcases hno with h1 | h1
      all_goals (go_wp2_with fail; go_ret; exact ⟨rfl, HB4.out⟩)
  | true =>
    have hla := wl.openE_len hea
    rw [HA.out] at hla
    have HEA := Lib.hid hea
    have HQ := Lib.hid (wl.st_new (c := 100000) (k := 0) hea (by omega))
    clear hea
    go_wp2_with fail
    refine hO.mono ?_
    rintro e w3 h
    obtain ⟨A, c, g, rfl, hd3, hA3, hg3, _, hl3⟩ := h.ok HQ.out
    have hO2 := ld_open b hd3 LB.out HT.out
    clear hO h
    cases heb : wl.openE b with
    | false =>
      have hnob := wl.openE_not heb
      rw [HB.out] at hnob
      have HBB := Lib.hid (wl.open_bad (d := wl.st 100000 a [] 0) heb)
      clear heb
      go_wp2_with fail
      refine hO2.mono ?_
      rintro e w4 h
      obtain ⟨A2, c2, rfl, hd4, hA4⟩ := h.no HBB.out (by simp)
      clear hO2 h hd3 hd2 hA3 hA4 hb2 hl3
      have HB4 := Lib.hid hd4.bel
      clear hd4
      rcases hnob with h2 | h2
      all_goals (go_wp2_with fail; go_ret; exact ⟨rfl, HB4.out⟩)
    | true =>
      have hlb := wl.openE_len heb
      rw [HB.out] at hlb
      have HEB := Lib.hid heb
      have hcatb : crcm.mk b ++ ⟨#[43]⟩ = crcm.mk (b ++ [43]) := by rw [← crcm.mk_append]; rfl
      have hcata : crcm.mk a ++ ⟨#[43]⟩ = crcm.mk (a ++ [43]) := by rw [← crcm.mk_append]; rfl
      have zp : ByteArray.size ⟨#[43]⟩ = 1 := rfl
      have hnoa : ¬ 9223372036854775807 < NA + 1 := by omega
      have hnob : ¬ 9223372036854775807 < NB + 1 := by omega
      have hbe : ∀ s t : List UInt8, ((crcm.mk s).toList == (crcm.mk t).toList) = decide (s = t) := by
        intro s t
        rw [mk_toL, mk_toL]
        by_cases h : s = t
        · subst h; simp
        · rw [decide_eq_false h, beq_eq_false_iff_ne]; exact h
      have k1 := hbe a b
      have k2 := hbe a (b ++ [43])
      have k3 := hbe b (a ++ [43])
      clear hbe
      by_cases hsame : a = b ∨ a = b ++ [43] ∨ b = a ++ [43]
      · obtain ⟨D, hD⟩ := wl.st_any (c := 100000) HEA.out heb (by omega)
        have HDD := Lib.hid hD
        have HSM := Lib.hid hsame
        clear hD heb hsame
        go_wp2_with fail
        refine hO2.mono ?_
        rintro e w4 h
        obtain ⟨A2, c2, g2, rfl, hd4, hA4, hg4, _, hl4⟩ := h.ok HDD.out
        clear hO2 h hd3 hd2 hA3 hA4 hb2 hl3 hl4
        have HB4 := Lib.hid hd4.bel
        clear hd4
        have hsame := HSM.out
        by_cases h1 : a = b
        · rw [decide_eq_true h1] at k1
          clear h1 hsame
          go_wp2_with fail
          go_ret
          exact ⟨rfl, HB4.out⟩
        · rw [decide_eq_false h1] at k1
          by_cases h2 : a = b ++ [43]
          · rw [decide_eq_true h2] at k2
            clear h1 h2 hsame
            go_wp2_with fail
            go_ret
            exact ⟨rfl, HB4.out⟩
          · have h3 : b = a ++ [43] := by
              rcases hsame with h | h | h
              · exact absurd h h1
              · exact absurd h h2
              · exact h
            rw [decide_eq_false h2] at k2
            rw [decide_eq_true h3] at k3
            clear h1 h2 h3 hsame
            go_wp2_with fail
            go_ret
            exact ⟨rfl, HB4.out⟩
      · exact absurd ⟨HEA.out, heb, hsame⟩ HNOT.out
theorem names_law (a b x y : ByteArray) (w : World) (ht : TabAt w) :
    Calls Tryd.prog 3 #[.string a, .string b, .string x, .string y] w fun e w' => e = .returned (.bool true) ∧ Below w.heap.size w w' := by
  by_cases hl : 200 < a.size ∨ 200 < b.size ∨ 200 < x.size ∨ 200 < y.size
  · exact names_long a b x y w hl ht
  · obtain ⟨a', rfl⟩ : ∃ l, crcm.mk l = a := ⟨_, crcm.mk_of a⟩
    obtain ⟨b', rfl⟩ : ∃ l, crcm.mk l = b := ⟨_, crcm.mk_of b⟩
    obtain ⟨x', rfl⟩ : ∃ l, crcm.mk l = x := ⟨_, crcm.mk_of x⟩
    obtain ⟨y', rfl⟩ : ∃ l, crcm.mk l = y := ⟨_, crcm.mk_of y⟩
    simp only [crcm.mk_size] at hl
    by_cases h : wl.openE a' = true ∧ wl.openE b' = true ∧ ¬ (a' = b' ∨ a' = b' ++ [43] ∨ b' = a' ++ [43])
    · exact names_two a' b' x' y' w (by omega) (by omega) (by omega) (by omega) h.1 h.2.1 (fun e => h.2.2 (.inl e)) (fun e => h.2.2 (.inr (.inl e))) (fun e => h.2.2 (.inr (.inr e))) ht
    · exact names_few a' b' x' y' w (by omega) (by omega) (by omega) (by omega) h ht
end Go.Proofs.YtdnoeahhidmkbaaDoor
