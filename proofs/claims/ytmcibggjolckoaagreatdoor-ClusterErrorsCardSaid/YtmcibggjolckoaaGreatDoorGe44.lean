/- KcErrLaw: one behind the other. -/
import Derived.Test.YtmcibggjolckoaaGreatDoorG43
import Derived.Deep.DeepCutAuto
namespace Go.Proofs.YtmcibggjolckoaaGreatDoor
open Go Go.RowKit Go.Deep
set_option maxRecDepth 100000
theorem tab_later {w w' : World} (ht : TabAt w) (hb : Below w.heap.size w w') : TabAt w' := ht.below hb ht.1
/-- New, whatever is asked -/
theorem new_asked (many : Int) (w : World) (ht : TabAt w) :
    Calls Tryz.prog 11 #[.int .i64 many, .int .i64 1000] w fun e w' => ∃ (p : Option Addr) (z : Int), e = .returned (.tuple #[.pointer p, .int .i64 z]) ∧ Below w.heap.size w w' ∧ ((1 ≤ many ∧ many ≤ 7 ∧ z = 0) ∨ (¬ (1 ≤ many ∧ many ≤ 7) ∧ z = 1 ∧ p = none)) := by
  by_cases h : 1 ≤ many ∧ many ≤ 7
  · obtain ⟨n, rfl⟩ := Int.eq_ofNat_of_zero_le (by omega : 0 ≤ many)
    refine (new_calm (B := 500) n 1000 w (by omega) (by omega) (by decide) (by decide) ht).mono ?_
    rintro e w' ⟨c, rfl, h2⟩
    exact ⟨_, 0, rfl, h2.bel, .inl ⟨h.1, h.2, rfl⟩⟩
  · refine (new_bad many 1000 w h).mono ?_
    rintro e w' ⟨rfl, rfl⟩
    exact ⟨none, 1, rfl, Below.refl _ _, .inr ⟨h, rfl, rfl⟩⟩
set_option maxHeartbeats 16000000 in
theorem errors_any (many i k : Int) (crash : Bool) (w : World) (ht : TabAt w) :
    Calls Tryz.prog 9 #[.int .i64 many, .int .i64 i, .int .i64 k, .bool crash] w fun e w' => e = .returned (.bool true) ∧ Below w.heap.size w w' := by
  have HNEW := Lib.hid (new_asked many w ht)
  have HT := Lib.hid ht
  clear ht
  go_enter Tryz.func9, Tryz.ntmps9
  go_upto_region 2 with (go_at_call 11; refine HNEW.out.mono ?_; rintro e w1 ⟨px, z, rfl, hb1, hz⟩; have HB1 := Lib.hid hb1; have HZ := Lib.hid hz; clear hb1 hz)
  have HSH := Lib.hid (shown_any w1 (tab_later HT.out HB1.out))
  clear HNEW
  go_cut [50] (fun s50 wx => s50 = .bool false ∧ Below w1.heap.size w1 wx)
  case first =>
    rcases HZ.out with ⟨m1, m7, rfl⟩ | ⟨hm, rfl, rfl⟩
    · have e1 : decide (1 ≤ many) = true := decide_eq_true m1
      have e2 : decide (many ≤ 7) = true := decide_eq_true m7
      clear m1 m7 HZ
      go_wp2_with (go_at_call 10; refine HSH.out.mono ?_; rintro e w2 ⟨rfl, hb2⟩; have HB2 := Lib.hid hb2; clear hb2)
      go_meet
      exact ⟨rfl, HB2.out⟩
    · by_cases h1 : 1 ≤ many
      · have e1 : decide (1 ≤ many) = true := decide_eq_true h1
        have e2 : decide (many ≤ 7) = false := decide_eq_false (fun h => hm ⟨h1, h⟩)
        clear h1 hm HZ
        go_wp2_with (go_at_call 10; refine HSH.out.mono ?_; rintro e w2 ⟨rfl, hb2⟩; have HB2 := Lib.hid hb2; clear hb2)
        go_meet
        exact ⟨rfl, HB2.out⟩
      · have e1 : decide (1 ≤ many) = false := decide_eq_false h1
        clear h1 hm HZ
        go_wp2_with (go_at_call 10; refine HSH.out.mono ?_; rintro e w2 ⟨rfl, hb2⟩; have HB2 := Lib.hid hb2; clear hb2)
        go_meet
        exact ⟨rfl, HB2.out⟩
  case rest =>
    obtain ⟨rfl, hbc⟩ := hcut
    obtain ⟨w2, hw2⟩ : ∃ W, wc = W := ⟨_, rfl⟩
    rw [hw2] at hbc ⊢
    have HB2 : Hid (Below w.heap.size w w2) := Lib.hid (HB1.out.trans (hbc.mono HB1.out.size))
    have HT2 := Lib.hid (tab_later HT.out HB2.out)
    have HNEW := Lib.hid (new_calm (B := 50000) 3 100000 w2 (by decide) (by decide) (by decide) (by decide) HT2.out)
    have HBD : Hid (∀ M, M ≤ 60 → Bd 50000 M) := Lib.hid fun M hM => ⟨by omega, by omega⟩
    clear hw2 hbc HB1 HZ HSH HT
    go_upto_region 7 with (first | (go_at_call 11; refine HNEW.out.mono ?_; rintro e w3 ⟨c, rfl, hc3⟩; have HC3 := Lib.hid hc3; have HMANY := Lib.hid (many_calm hc3); unfold cptr at HMANY; unfold cptr; clear hc3) | (go_at_call 24; refine HMANY.out.mono ?_; rintro e w4 ⟨rfl, rfl⟩))
    clear HNEW HMANY
    go_loopg [] 16 (fun gh wr => ∃ (j : Nat) (C : cl.Clu), j ≤ 16 ∧ gh = 16 - j ∧ Calm 50000 w2 c 3 j C wr ∧ cl.Like C (cl.tk2 j))
    case atStart => exact ⟨0, _, Nat.zero_le _, rfl, HC3.out, cl.like_fresh 3⟩
    case round =>
      obtain ⟨j, C, hj, hgh, hI, hL⟩ := hrel
      have HI := Lib.hid hI
      have HL := Lib.hid hL
      have HW := Lib.hid (waiting_calm hI)
      unfold cptr at HW
      have HGH := Lib.hid hgh
      clear hI hL hgh HC3
      by_cases hlt : j < 16
      · have hw0 : C.way.length = 0 := by
          rw [HL.out.way]
          have h1 := List.all_eq_true.1 cl.tk2_none j (List.mem_range.2 hlt)
          rw [List.isEmpty_iff.1 h1]
          rfl
        rw [hw0] at HW
        have hcall := tick_calm (i := 2) HI.out (HBD.out _ (by omega)) HT2.out (by decide) (HL.out.p 2 (by rw [HI.out.cn]; decide)).1
        have hlike := cl.like_tick (i := 2) HL.out (by rw [HI.out.cn]; decide)
        unfold cptr at hcall
        have HCALL := Lib.hid hcall
        have HLIKE := Lib.hid hlike
        have HLT := Lib.hid hlt
        clear hlt hj hw0 hcall hlike
        go_wp2_with (first | (go_at_call 25; refine HW.out.mono ?_; rintro e w4 ⟨rfl, rfl⟩) | (go_at_call 26; refine HCALL.out.mono ?_; rintro e w5 ⟨rfl, hI5⟩; have HI5 := Lib.hid hI5; clear hI5))
        go_roundg (15 - j)
        case rel => exact ⟨j + 1, _, HLT.out, by omega, HI5.out, HLIKE.out⟩
        case measure => have := HLT.out; have := HGH.out; omega
      · obtain rfl : j = 16 := by omega
        have hw2 : C.way.length = 2 := by rw [HL.out.way]; exact cl.tk2_two
        rw [hw2] at HW
        have hrole : ∀ q, q < 3 → (C.p q).up = true ∧ (C.p q).x.role ≠ 2 := fun q hq => by
          obtain ⟨h1, h2⟩ := HL.out.p q (by rw [HI.out.cn]; exact hq)
          refine ⟨h1, fun h3 => ?_⟩
          have e := congrArg (fun l => l[q]?) cl.tk2_role
          simp only [List.getElem?_map, h2, Option.map_some, h3] at e
          revert e
          have : q = 0 ∨ q = 1 ∨ q = 2 := by omega
          rcases this with rfl | rfl | rfl <;> decide
        have HROLE := Lib.hid hrole
        have HW2 := Lib.hid hw2
        clear hlt hj hrole hw2 HGH
        go_upto_region 11 with (go_at_call 25; refine HW.out.mono ?_; rintro e w4 ⟨rfl, rfl⟩)
        by_cases hin : 0 ≤ i ∧ i < 3
        · obtain ⟨q, rfl⟩ := Int.eq_ofNat_of_zero_le hin.1
          have hq : q < 3 := by omega
          have p0 : decide (0 ≤ (q : Int)) = true := decide_eq_true (by omega)
          have p1 : decide ((q : Int) < 3) = true := decide_eq_true (by omega)
          cases crash with
          | true =>
            have hup := HROLE.out q hq
            have HCR := Lib.hid (crash_calm 0 HI.out hq hup.1)
            have hsd : ∀ W, Calm 50000 w2 c 3 16 (cl.fallen C q (C.p q).s zeroN) W → Sta w2 c (fun C => (C.p q).up = false) 2 16 W := fun W h => ⟨_, h, HW2.out, by show (cl.upd C.p q _ q).up = false; rw [cl.upd_same]⟩
            have hcr2 : ∀ W, Sta w2 c (fun C => (C.p q).up = false) 2 16 W → Calls Tryz.prog 23 #[.pointer (some ⟨c, 0, none⟩), .int .i64 (q : Int), .int .i64 0] W fun e w' => e = .returned (.int .i64 6) ∧ Sta w2 c (fun C => (C.p q).up = false) 2 16 w' := fun W h => by
              have h0 := h
              obtain ⟨D, h1, _, hd⟩ := h
              obtain ⟨R, kk, F, wv, a1, _⟩ := h1.at_
              refine (crash_no (i := (q : Int)) 0 a1 (fun fv w hw => on_down fv hw (by rw [h1.cn]; exact hq) hd)).mono ?_
              rintro e w' ⟨rfl, hb⟩
              exact ⟨rfl, h0.later hb⟩
            have hup2 : ∀ W, Sta w2 c (fun C => (C.p q).up = false) 2 16 W → Calls Tryz.prog 20 #[.pointer (some ⟨c, 0, none⟩), .int .i64 (q : Int)] W fun e w' => e = .returned (.bool false) ∧ Sta w2 c (fun C => (C.p q).up = false) 2 16 w' := fun W h => by
              have h0 := h
              obtain ⟨D, h1, _, hd⟩ := h
              obtain ⟨R, kk, F, wv, a1, _⟩ := h1.at_
              have := up_yes (i := q) a1 (by rw [h1.cn]; exact hq)
              rw [hd] at this
              refine this.mono ?_
              rintro e w' ⟨rfl, hb⟩
              exact ⟨rfl, h0.later hb⟩
            have hcm2 : ∀ W, Sta w2 c (fun C => (C.p q).up = false) 2 16 W → Calls Tryz.prog 15 #[.pointer (some ⟨c, 0, none⟩), .int .i64 (q : Int)] W fun e w' => ∃ D e', e = .returned (.slice D 0 e') ∧ Sta w2 c (fun C => (C.p q).up = false) 2 16 w' := fun W h => by
              have h0 := h
              obtain ⟨D, h1, _, hd⟩ := h
              have := committed_calm (i := q) h1 (HBD.out _ (by decide)) hq
              have e0 : shownLog D q = [] := by unfold shownLog; rw [if_neg (by rw [hd]; decide)]
              rw [e0] at this
              refine this.mono ?_
              rintro e w' ⟨A, d, rfl, _, hb⟩
              exact ⟨A, d, rfl, h0.later hb⟩
            have HSD := Lib.hid hsd
            have HCR2 := Lib.hid hcr2
            have HUP2 := Lib.hid hup2
            have HCM2 := Lib.hid hcm2
            unfold cptr at HCR
            clear hup hsd hcr2 hup2 hcm2 hin HI HL HROLE HW2
            go_upto_region 18 with (first | (go_at_call 23; refine (HCR2.out _ hS).mono ?_; rintro e w6 ⟨rfl, hS⟩) | (go_at_call 23; refine HCR.out.mono ?_; rintro e w6 ⟨rfl, hS0⟩; have hS := HSD.out _ hS0; clear hS0) | (go_at_call 20; refine (HUP2.out _ hS).mono ?_; rintro e w6 ⟨rfl, hS⟩) | (go_at_call 15; refine (HCM2.out _ hS).mono ?_; rintro e w6 ⟨D, dd, rfl, hS⟩))
            have HS := Lib.hid hS
            have hch := chain_down (w0 := w2) (c := c) (k := k) hq HT2.out
            clear hS HSD HCR HCR2 HUP2 HCM2 hq
            obtain ⟨⟨S, T, U, c0, cW, cD, cF, cDy, cDn, cRy, cRn, cP, cT, cS⟩, cDel, cB⟩ := hch
            have hS := c0 _ HS.out
            have cW := Lib.hid cW
            have cD := Lib.hid cD
            have cF := Lib.hid cF
            have cP := Lib.hid cP
            have cT := Lib.hid cT
            have cS := Lib.hid cS
            have cDel := Lib.hid cDel
            have cB := Lib.hid cB
            clear HS c0
            by_cases hhas : 0 ≤ k ∧ k < 2
            · have cDb := Lib.hid (cDy hhas)
              have cDr := Lib.hid (cRy hhas)
              have q0 : decide (0 ≤ k) = true := decide_eq_true hhas.1
              have q1 : decide (k < 2) = true := decide_eq_true hhas.2
              clear cDy cDn cRy cRn hhas
              go_wp2_with (first | (go_at_call 25; refine (cW.out _ _ hS).mono ?_; rintro e w2 ⟨rfl, rfl⟩) | (go_at_call 27; refine (cD.out _ hS).mono ?_; rintro e w2 ⟨dv, hdv, rfl, hS⟩; obtain ⟨da, rfl⟩ := Option.isSome_iff_exists.1 hdv; clear hdv) | (go_at_call 21; refine (cF.out _ hS).mono ?_; rintro e w2 ⟨rfl, hS⟩) | (go_at_call 28; refine (cDb.out _ hS).mono ?_; rintro e w2 ⟨rfl, hS⟩) | (go_at_call 29; refine (cDr.out _ hS).mono ?_; rintro e w2 ⟨rfl, hS⟩) | (go_at_call 13; refine (cP.out _ hS).mono ?_; rintro e w2 ⟨rfl, hS⟩) | (go_at_call 26; refine (cT.out _ hS).mono ?_; rintro e w2 ⟨rfl, hS⟩) | (go_at_call 22; refine (cS.out _ hS).mono ?_; rintro e w2 ⟨rfl, hS⟩) | (go_at_call 30; refine (cDel.out _ (by decide) _ hS).mono ?_; rintro e w2 ⟨rfl, hS⟩))
              go_ret
              exact ⟨rfl, HB2.out.trans ((cB.out _ hS).mono HB2.out.size)⟩
            · have cDb := Lib.hid (cDn hhas)
              have cDr := Lib.hid (cRn hhas)
              clear cDy cDn cRy cRn
              by_cases hk0 : 0 ≤ k
              · have q0 : decide (0 ≤ k) = true := decide_eq_true hk0
                have q1 : decide (k < 2) = false := decide_eq_false (fun h => hhas ⟨hk0, h⟩)
                clear hhas hk0
                go_wp2_with (first | (go_at_call 25; refine (cW.out _ _ hS).mono ?_; rintro e w2 ⟨rfl, rfl⟩) | (go_at_call 27; refine (cD.out _ hS).mono ?_; rintro e w2 ⟨dv, hdv, rfl, hS⟩; obtain ⟨da, rfl⟩ := Option.isSome_iff_exists.1 hdv; clear hdv) | (go_at_call 21; refine (cF.out _ hS).mono ?_; rintro e w2 ⟨rfl, hS⟩) | (go_at_call 28; refine (cDb.out _ hS).mono ?_; rintro e w2 ⟨rfl, hS⟩) | (go_at_call 29; refine (cDr.out _ hS).mono ?_; rintro e w2 ⟨rfl, hS⟩) | (go_at_call 13; refine (cP.out _ hS).mono ?_; rintro e w2 ⟨rfl, hS⟩) | (go_at_call 26; refine (cT.out _ hS).mono ?_; rintro e w2 ⟨rfl, hS⟩) | (go_at_call 22; refine (cS.out _ hS).mono ?_; rintro e w2 ⟨rfl, hS⟩) | (go_at_call 30; refine (cDel.out _ (by decide) _ hS).mono ?_; rintro e w2 ⟨rfl, hS⟩))
                go_ret
                exact ⟨rfl, HB2.out.trans ((cB.out _ hS).mono HB2.out.size)⟩
              · have q0 : decide (0 ≤ k) = false := decide_eq_false hk0
                clear hhas hk0
                go_wp2_with (first | (go_at_call 25; refine (cW.out _ _ hS).mono ?_; rintro e w2 ⟨rfl, rfl⟩) | (go_at_call 27; refine (cD.out _ hS).mono ?_; rintro e w2 ⟨dv, hdv, rfl, hS⟩; obtain ⟨da, rfl⟩ := Option.isSome_iff_exists.1 hdv; clear hdv) | (go_at_call 21; refine (cF.out _ hS).mono ?_; rintro e w2 ⟨rfl, hS⟩) | (go_at_call 28; refine (cDb.out _ hS).mono ?_; rintro e w2 ⟨rfl, hS⟩) | (go_at_call 29; refine (cDr.out _ hS).mono ?_; rintro e w2 ⟨rfl, hS⟩) | (go_at_call 13; refine (cP.out _ hS).mono ?_; rintro e w2 ⟨rfl, hS⟩) | (go_at_call 26; refine (cT.out _ hS).mono ?_; rintro e w2 ⟨rfl, hS⟩) | (go_at_call 22; refine (cS.out _ hS).mono ?_; rintro e w2 ⟨rfl, hS⟩) | (go_at_call 30; refine (cDel.out _ (by decide) _ hS).mono ?_; rintro e w2 ⟨rfl, hS⟩))
                go_ret
                exact ⟨rfl, HB2.out.trans ((cB.out _ hS).mono HB2.out.size)⟩
          | false =>
            have hup := HROLE.out q hq
            have HS : Hid (Sta w2 c (fun C => (C.p q).up = true ∧ (C.p q).x.role ≠ 2) 2 16 wr) := Lib.hid ⟨C, HI.out, HW2.out, hup⟩
            have hch := chain_up (w0 := w2) (c := c) (k := k) hq HT2.out
            clear hup hin HI HL HROLE HW2 hq
            obtain ⟨⟨S, T, U, c0, cW, cD, cF, cDy, cDn, cRy, cRn, cP, cT, cS⟩, cDel, cB⟩ := hch
            have hS := c0 _ HS.out
            have cW := Lib.hid cW
            have cD := Lib.hid cD
            have cF := Lib.hid cF
            have cP := Lib.hid cP
            have cT := Lib.hid cT
            have cS := Lib.hid cS
            have cDel := Lib.hid cDel
            have cB := Lib.hid cB
            clear HS c0
            by_cases hhas : 0 ≤ k ∧ k < 2
            · have cDb := Lib.hid (cDy hhas)
              have cDr := Lib.hid (cRy hhas)
              have q0 : decide (0 ≤ k) = true := decide_eq_true hhas.1
              have q1 : decide (k < 2) = true := decide_eq_true hhas.2
              clear cDy cDn cRy cRn hhas
              go_wp2_with (first | (go_at_call 25; refine (cW.out _ _ hS).mono ?_; rintro e w2 ⟨rfl, rfl⟩) | (go_at_call 27; refine (cD.out _ hS).mono ?_; rintro e w2 ⟨dv, hdv, rfl, hS⟩; obtain ⟨da, rfl⟩ := Option.isSome_iff_exists.1 hdv; clear hdv) | (go_at_call 21; refine (cF.out _ hS).mono ?_; rintro e w2 ⟨rfl, hS⟩) | (go_at_call 28; refine (cDb.out _ hS).mono ?_; rintro e w2 ⟨rfl, hS⟩) | (go_at_call 29; refine (cDr.out _ hS).mono ?_; rintro e w2 ⟨rfl, hS⟩) | (go_at_call 13; refine (cP.out _ hS).mono ?_; rintro e w2 ⟨rfl, hS⟩) | (go_at_call 26; refine (cT.out _ hS).mono ?_; rintro e w2 ⟨rfl, hS⟩) | (go_at_call 22; refine (cS.out _ hS).mono ?_; rintro e w2 ⟨rfl, hS⟩) | (go_at_call 30; refine (cDel.out _ (by decide) _ hS).mono ?_; rintro e w2 ⟨rfl, hS⟩))
              go_ret
              exact ⟨rfl, HB2.out.trans ((cB.out _ hS).mono HB2.out.size)⟩
            · have cDb := Lib.hid (cDn hhas)
              have cDr := Lib.hid (cRn hhas)
              clear cDy cDn cRy cRn
              by_cases hk0 : 0 ≤ k
              · have q0 : decide (0 ≤ k) = true := decide_eq_true hk0
                have q1 : decide (k < 2) = false := decide_eq_false (fun h => hhas ⟨hk0, h⟩)
                clear hhas hk0
                go_wp2_with (first | (go_at_call 25; refine (cW.out _ _ hS).mono ?_; rintro e w2 ⟨rfl, rfl⟩) | (go_at_call 27; refine (cD.out _ hS).mono ?_; rintro e w2 ⟨dv, hdv, rfl, hS⟩; obtain ⟨da, rfl⟩ := Option.isSome_iff_exists.1 hdv; clear hdv) | (go_at_call 21; refine (cF.out _ hS).mono ?_; rintro e w2 ⟨rfl, hS⟩) | (go_at_call 28; refine (cDb.out _ hS).mono ?_; rintro e w2 ⟨rfl, hS⟩) | (go_at_call 29; refine (cDr.out _ hS).mono ?_; rintro e w2 ⟨rfl, hS⟩) | (go_at_call 13; refine (cP.out _ hS).mono ?_; rintro e w2 ⟨rfl, hS⟩) | (go_at_call 26; refine (cT.out _ hS).mono ?_; rintro e w2 ⟨rfl, hS⟩) | (go_at_call 22; refine (cS.out _ hS).mono ?_; rintro e w2 ⟨rfl, hS⟩) | (go_at_call 30; refine (cDel.out _ (by decide) _ hS).mono ?_; rintro e w2 ⟨rfl, hS⟩))
                go_ret
                exact ⟨rfl, HB2.out.trans ((cB.out _ hS).mono HB2.out.size)⟩
              · have q0 : decide (0 ≤ k) = false := decide_eq_false hk0
                clear hhas hk0
                go_wp2_with (first | (go_at_call 25; refine (cW.out _ _ hS).mono ?_; rintro e w2 ⟨rfl, rfl⟩) | (go_at_call 27; refine (cD.out _ hS).mono ?_; rintro e w2 ⟨dv, hdv, rfl, hS⟩; obtain ⟨da, rfl⟩ := Option.isSome_iff_exists.1 hdv; clear hdv) | (go_at_call 21; refine (cF.out _ hS).mono ?_; rintro e w2 ⟨rfl, hS⟩) | (go_at_call 28; refine (cDb.out _ hS).mono ?_; rintro e w2 ⟨rfl, hS⟩) | (go_at_call 29; refine (cDr.out _ hS).mono ?_; rintro e w2 ⟨rfl, hS⟩) | (go_at_call 13; refine (cP.out _ hS).mono ?_; rintro e w2 ⟨rfl, hS⟩) | (go_at_call 26; refine (cT.out _ hS).mono ?_; rintro e w2 ⟨rfl, hS⟩) | (go_at_call 22; refine (cS.out _ hS).mono ?_; rintro e w2 ⟨rfl, hS⟩) | (go_at_call 30; refine (cDel.out _ (by decide) _ hS).mono ?_; rintro e w2 ⟨rfl, hS⟩))
                go_ret
                exact ⟨rfl, HB2.out.trans ((cB.out _ hS).mono HB2.out.size)⟩
        · have HS : Hid (Sta w2 c (fun _ => True) 2 16 wr) := Lib.hid ⟨C, HI.out, HW2.out, trivial⟩
          have hch := chain_out (w0 := w2) (c := c) (k := k) hin
          by_cases hi0 : 0 ≤ i
          · have p0 : decide (0 ≤ i) = true := decide_eq_true hi0
            have p1 : decide (i < 3) = false := decide_eq_false (fun h => hin ⟨hi0, h⟩)
            clear hin HI HL HROLE HW2 hi0
            obtain ⟨⟨S, T, U, c0, cW, cD, cF, cDy, cDn, cRy, cRn, cP, cT, cS⟩, cDel, cB⟩ := hch
            have hS := c0 _ HS.out
            have cW := Lib.hid cW
            have cD := Lib.hid cD
            have cF := Lib.hid cF
            have cP := Lib.hid cP
            have cT := Lib.hid cT
            have cS := Lib.hid cS
            have cDel := Lib.hid cDel
            have cB := Lib.hid cB
            clear HS c0
            by_cases hhas : 0 ≤ k ∧ k < 2
            · have cDb := Lib.hid (cDy hhas)
              have cDr := Lib.hid (cRy hhas)
              have q0 : decide (0 ≤ k) = true := decide_eq_true hhas.1
              have q1 : decide (k < 2) = true := decide_eq_true hhas.2
              clear cDy cDn cRy cRn hhas
              go_wp2_with (first | (go_at_call 25; refine (cW.out _ _ hS).mono ?_; rintro e w2 ⟨rfl, rfl⟩) | (go_at_call 27; refine (cD.out _ hS).mono ?_; rintro e w2 ⟨dv, hdv, rfl, hS⟩; obtain rfl : dv = none := (by simpa using hdv); clear hdv) | (go_at_call 21; refine (cF.out _ hS).mono ?_; rintro e w2 ⟨rfl, hS⟩) | (go_at_call 28; refine (cDb.out _ hS).mono ?_; rintro e w2 ⟨rfl, hS⟩) | (go_at_call 29; refine (cDr.out _ hS).mono ?_; rintro e w2 ⟨rfl, hS⟩) | (go_at_call 13; refine (cP.out _ hS).mono ?_; rintro e w2 ⟨rfl, hS⟩) | (go_at_call 26; refine (cT.out _ hS).mono ?_; rintro e w2 ⟨rfl, hS⟩) | (go_at_call 22; refine (cS.out _ hS).mono ?_; rintro e w2 ⟨rfl, hS⟩) | (go_at_call 30; refine (cDel.out _ (by decide) _ hS).mono ?_; rintro e w2 ⟨rfl, hS⟩))
              go_ret
              exact ⟨rfl, HB2.out.trans ((cB.out _ hS).mono HB2.out.size)⟩
            · have cDb := Lib.hid (cDn hhas)
              have cDr := Lib.hid (cRn hhas)
              clear cDy cDn cRy cRn
              by_cases hk0 : 0 ≤ k
              · have q0 : decide (0 ≤ k) = true := decide_eq_true hk0
                have q1 : decide (k < 2) = false := decide_eq_false (fun h => hhas ⟨hk0, h⟩)
                clear hhas hk0
                go_wp2_with (first | (go_at_call 25; refine (cW.out _ _ hS).mono ?_; rintro e w2 ⟨rfl, rfl⟩) | (go_at_call 27; refine (cD.out _ hS).mono ?_; rintro e w2 ⟨dv, hdv, rfl, hS⟩; obtain rfl : dv = none := (by simpa using hdv); clear hdv) | (go_at_call 21; refine (cF.out _ hS).mono ?_; rintro e w2 ⟨rfl, hS⟩) | (go_at_call 28; refine (cDb.out _ hS).mono ?_; rintro e w2 ⟨rfl, hS⟩) | (go_at_call 29; refine (cDr.out _ hS).mono ?_; rintro e w2 ⟨rfl, hS⟩) | (go_at_call 13; refine (cP.out _ hS).mono ?_; rintro e w2 ⟨rfl, hS⟩) | (go_at_call 26; refine (cT.out _ hS).mono ?_; rintro e w2 ⟨rfl, hS⟩) | (go_at_call 22; refine (cS.out _ hS).mono ?_; rintro e w2 ⟨rfl, hS⟩) | (go_at_call 30; refine (cDel.out _ (by decide) _ hS).mono ?_; rintro e w2 ⟨rfl, hS⟩))
                go_ret
                exact ⟨rfl, HB2.out.trans ((cB.out _ hS).mono HB2.out.size)⟩
              · have q0 : decide (0 ≤ k) = false := decide_eq_false hk0
                clear hhas hk0
                go_wp2_with (first | (go_at_call 25; refine (cW.out _ _ hS).mono ?_; rintro e w2 ⟨rfl, rfl⟩) | (go_at_call 27; refine (cD.out _ hS).mono ?_; rintro e w2 ⟨dv, hdv, rfl, hS⟩; obtain rfl : dv = none := (by simpa using hdv); clear hdv) | (go_at_call 21; refine (cF.out _ hS).mono ?_; rintro e w2 ⟨rfl, hS⟩) | (go_at_call 28; refine (cDb.out _ hS).mono ?_; rintro e w2 ⟨rfl, hS⟩) | (go_at_call 29; refine (cDr.out _ hS).mono ?_; rintro e w2 ⟨rfl, hS⟩) | (go_at_call 13; refine (cP.out _ hS).mono ?_; rintro e w2 ⟨rfl, hS⟩) | (go_at_call 26; refine (cT.out _ hS).mono ?_; rintro e w2 ⟨rfl, hS⟩) | (go_at_call 22; refine (cS.out _ hS).mono ?_; rintro e w2 ⟨rfl, hS⟩) | (go_at_call 30; refine (cDel.out _ (by decide) _ hS).mono ?_; rintro e w2 ⟨rfl, hS⟩))
                go_ret
                exact ⟨rfl, HB2.out.trans ((cB.out _ hS).mono HB2.out.size)⟩
          · have p0 : decide (0 ≤ i) = false := decide_eq_false hi0
            clear hin HI HL HROLE HW2 hi0
            obtain ⟨⟨S, T, U, c0, cW, cD, cF, cDy, cDn, cRy, cRn, cP, cT, cS⟩, cDel, cB⟩ := hch
            have hS := c0 _ HS.out
            have cW := Lib.hid cW
            have cD := Lib.hid cD
            have cF := Lib.hid cF
            have cP := Lib.hid cP
            have cT := Lib.hid cT
            have cS := Lib.hid cS
            have cDel := Lib.hid cDel
            have cB := Lib.hid cB
            clear HS c0
            by_cases hhas : 0 ≤ k ∧ k < 2
            · have cDb := Lib.hid (cDy hhas)
              have cDr := Lib.hid (cRy hhas)
              have q0 : decide (0 ≤ k) = true := decide_eq_true hhas.1
              have q1 : decide (k < 2) = true := decide_eq_true hhas.2
              clear cDy cDn cRy cRn hhas
              go_wp2_with (first | (go_at_call 25; refine (cW.out _ _ hS).mono ?_; rintro e w2 ⟨rfl, rfl⟩) | (go_at_call 27; refine (cD.out _ hS).mono ?_; rintro e w2 ⟨dv, hdv, rfl, hS⟩; obtain rfl : dv = none := (by simpa using hdv); clear hdv) | (go_at_call 21; refine (cF.out _ hS).mono ?_; rintro e w2 ⟨rfl, hS⟩) | (go_at_call 28; refine (cDb.out _ hS).mono ?_; rintro e w2 ⟨rfl, hS⟩) | (go_at_call 29; refine (cDr.out _ hS).mono ?_; rintro e w2 ⟨rfl, hS⟩) | (go_at_call 13; refine (cP.out _ hS).mono ?_; rintro e w2 ⟨rfl, hS⟩) | (go_at_call 26; refine (cT.out _ hS).mono ?_; rintro e w2 ⟨rfl, hS⟩) | (go_at_call 22; refine (cS.out _ hS).mono ?_; rintro e w2 ⟨rfl, hS⟩) | (go_at_call 30; refine (cDel.out _ (by decide) _ hS).mono ?_; rintro e w2 ⟨rfl, hS⟩))
              go_ret
              exact ⟨rfl, HB2.out.trans ((cB.out _ hS).mono HB2.out.size)⟩
            · have cDb := Lib.hid (cDn hhas)
              have cDr := Lib.hid (cRn hhas)
              clear cDy cDn cRy cRn
              by_cases hk0 : 0 ≤ k
              · have q0 : decide (0 ≤ k) = true := decide_eq_true hk0
                have q1 : decide (k < 2) = false := decide_eq_false (fun h => hhas ⟨hk0, h⟩)
                clear hhas hk0
                go_wp2_with (first | (go_at_call 25; refine (cW.out _ _ hS).mono ?_; rintro e w2 ⟨rfl, rfl⟩) | (go_at_call 27; refine (cD.out _ hS).mono ?_; rintro e w2 ⟨dv, hdv, rfl, hS⟩; obtain rfl : dv = none := (by simpa using hdv); clear hdv) | (go_at_call 21; refine (cF.out _ hS).mono ?_; rintro e w2 ⟨rfl, hS⟩) | (go_at_call 28; refine (cDb.out _ hS).mono ?_; rintro e w2 ⟨rfl, hS⟩) | (go_at_call 29; refine (cDr.out _ hS).mono ?_; rintro e w2 ⟨rfl, hS⟩) | (go_at_call 13; refine (cP.out _ hS).mono ?_; rintro e w2 ⟨rfl, hS⟩) | (go_at_call 26; refine (cT.out _ hS).mono ?_; rintro e w2 ⟨rfl, hS⟩) | (go_at_call 22; refine (cS.out _ hS).mono ?_; rintro e w2 ⟨rfl, hS⟩) | (go_at_call 30; refine (cDel.out _ (by decide) _ hS).mono ?_; rintro e w2 ⟨rfl, hS⟩))
                go_ret
                exact ⟨rfl, HB2.out.trans ((cB.out _ hS).mono HB2.out.size)⟩
              · have q0 : decide (0 ≤ k) = false := decide_eq_false hk0
                clear hhas hk0
                go_wp2_with (first | (go_at_call 25; refine (cW.out _ _ hS).mono ?_; rintro e w2 ⟨rfl, rfl⟩) | (go_at_call 27; refine (cD.out _ hS).mono ?_; rintro e w2 ⟨dv, hdv, rfl, hS⟩; obtain rfl : dv = none := (by simpa using hdv); clear hdv) | (go_at_call 21; refine (cF.out _ hS).mono ?_; rintro e w2 ⟨rfl, hS⟩) | (go_at_call 28; refine (cDb.out _ hS).mono ?_; rintro e w2 ⟨rfl, hS⟩) | (go_at_call 29; refine (cDr.out _ hS).mono ?_; rintro e w2 ⟨rfl, hS⟩) | (go_at_call 13; refine (cP.out _ hS).mono ?_; rintro e w2 ⟨rfl, hS⟩) | (go_at_call 26; refine (cT.out _ hS).mono ?_; rintro e w2 ⟨rfl, hS⟩) | (go_at_call 22; refine (cS.out _ hS).mono ?_; rintro e w2 ⟨rfl, hS⟩) | (go_at_call 30; refine (cDel.out _ (by decide) _ hS).mono ?_; rintro e w2 ⟨rfl, hS⟩))
                go_ret
                exact ⟨rfl, HB2.out.trans ((cB.out _ hS).mono HB2.out.size)⟩
end Go.Proofs.YtmcibggjolckoaaGreatDoor
