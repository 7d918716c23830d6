/- KcSafe: one behind the other. -/
import Derived.Test.YtmcibggjolckoaaGreatDoorGa44
import Derived.Deep.DeepCutAuto
namespace Go.Proofs.YtmcibggjolckoaaGreatDoor
open Go Go.RowKit Go.Deep
set_option maxRecDepth 100000
set_option maxHeartbeats 16000000 in
theorem safe_any {w : World} {v : Value} {l : List cl.Act} (xm : Nat) (hx256 : xm < 256) (hA : Acts w v l) (ht : TabAt w) :
    Calls Tryz.prog 4 #[.int .u8 (xm : Int), v] w fun e w' => e = .returned (.bool true) ∧ Below w.heap.size w w' := by
  obtain ⟨r, hr5⟩ : ∃ r, xm % 5 = r := ⟨_, rfl⟩
  have hr : r < 5 := by rw [← hr5]; exact Nat.mod_lt _ (by decide)
  have hwx : IntKind.i64.wrap (xm : Int) = (xm : Int) := wrap_i64_in (by omega) (by omega)
  have hm5 := tmod_nat xm 5
  rw [hr5] at hm5
  have hm5 : ((xm : Int)).tmod 5 = (r : Int) := hm5
  obtain ⟨n, hn⟩ : ∃ n, 1 + r = n := ⟨_, rfl⟩
  have hwn : IntKind.i64.wrap (1 + (r : Int)) = (n : Int) := by rw [IntKind.wrap_i64]; omega
  have HNN : Hid (1 ≤ n ∧ n ≤ 7) := Lib.hid (by omega)
  clear hr5 hr hn hx256
  have HBDD := Lib.hid (bounded_any hA)
  have HSH := Lib.hid (shown_any w ht)
  obtain ⟨A, cp, rfl, hlm, hlc, hac⟩ := hA
  obtain ⟨L, hL⟩ : ∃ n, l.length = n := ⟨_, rfl⟩
  have HAC := Lib.hid hac
  have HLL := Lib.hid hL
  have HT := Lib.hid ht
  rw [hL] at HBDD hlm hlc ⊢
  have hcI : (L : Int) ≤ (cp : Int) := by omega
  clear hac hL ht hlm hlc
  cases hbb : boundedB l with
  | false =>
    rw [hbb] at HBDD
    clear hbb
    go_enter Tryz.func4, Tryz.ntmps4
    go_wp2_with (first | (go_at_call 16; refine HBDD.out.mono ?_; rintro e w5 ⟨rfl, rfl⟩) | (go_at_call 10; refine HSH.out.mono ?_; rintro e w1 ⟨rfl, hb1⟩; have HB1 := Lib.hid hb1; clear hb1))
    go_ret
    exact ⟨rfl, HB1.out⟩
  | true =>
    rw [hbb] at HBDD
    obtain ⟨hl150, htx⟩ := bounded_yes hbb
    rw [HLL.out] at hl150
    have HL150 := Lib.hid hl150
    have HTX := Lib.hid htx
    clear hbb hl150 htx
    go_enter Tryz.func4, Tryz.ntmps4
    go_upto_region 4 with (first | (go_at_call 16; refine HBDD.out.mono ?_; rintro e w5 ⟨rfl, rfl⟩) | (go_at_call 10; refine HSH.out.mono ?_; rintro e w1 ⟨rfl, hb1⟩; have HB1 := Lib.hid hb1; clear hb1))
    have HT1 : Hid (TabAt w1) := Lib.hid (HT.out.below HB1.out HT.out.1)
    have HNEW := Lib.hid (new_sys n w1 HNN.out.1 HNN.out.2 HT1.out)
    go_upto_region 8 with (go_at_call 11; refine HNEW.out.mono ?_; rintro e w2 ⟨c, bs, rfl, hs2⟩; have HS2 := Lib.hid hs2; clear hs2)
    clear HNEW HBDD HSH
    have HACT : Hid (∀ W, Below w1.heap.size w1 W → ∀ j, j < L → ∃ b o, A = some ⟨b, o, none⟩ ∧ W.rangeAt b (o + j * 6) (actC (l.getD j default)) ∧ ActOk (l.getD j default) ∧ (l.getD j default).text.length ≤ 100) := Lib.hid fun W hb j hj => by
      obtain ⟨b, o, e, hc⟩ := HAC.out (by rw [HLL.out]; omega)
      obtain ⟨k1, k2⟩ := hc j (by rw [HLL.out]; exact hj)
      exact ⟨b, o, e, fun t u ht => cell_later hb (cell_later HB1.out (k1 t u ht)), k2, HTX.out j (by rw [HLL.out]; exact hj)⟩
    have HSZ : Hid (∀ x : cl.Act, (Tryz.prog.info? 41).map (·.size) = some (actC x).length) := Lib.hid fun x => by rw [act_size]; rfl
    have hal : Below w2.heap.size w2 (w2.alloc (.cells #[] 35)) := (Below.refl _ w2).alloc (Nat.le_refl _) _
    have hent0 : EntsB 0 (w2.alloc (.cells #[] 35)) (.slice (some ⟨w2.heap.size, 0, none⟩) 0 0) [] := EntsB.of_owns (ls := []) (base' := 0) (World.ownsRow_made (base := 0) (e := 35) (size := 2) w2 #[] 0 (Nat.zero_le _) (by unfold maxLen; omega) rfl)
    have HS3 := Lib.hid (HS2.out.later hal)
    have HEN := Lib.hid hent0
    clear hal hent0 HS2
    go_upto_region 9 with fail
    go_loopw [8, 9] (fun a i wr => ∃ (j : Nat) (C : cl.Clu) (g : cl.Gh) (ls : List rl.Ent), j ≤ L ∧ i = .int .i64 j ∧ Sys 5000000 w1 c n (20 * j) bs C g wr ∧ EntsB 0 wr a ls ∧ cl.Done n g ls ∧ ls.length ≤ 10000) (fun _ i _ => L - (intOf i).toNat)
    case atStart => exact ⟨0, _, _, [], Nat.zero_le _, rfl, HS3.out, HEN.out, .inl rfl, Nat.zero_le _⟩
    case round =>
      obtain ⟨j, C, g, ls, hj, rfl, hs, hE, hD, hls⟩ := hrel
      have HS := Lib.hid hs
      have HE := Lib.hid (And.intro hE (And.intro hD hls))
      have hwj : IntKind.i64.wrap ((j : Int) + 1) = (j : Int) + 1 := wrap_i64_in (by omega) (by have := HL150.out; omega)
      clear hs hE hD hls HS3 HEN
      by_cases hlt : j < L
      · have hltI : (j : Int) < (L : Int) := by omega
        obtain ⟨b, o, hAe, hr, hok, htx⟩ := HACT.out _ HS.out.bel j hlt
        subst hAe
        obtain ⟨x, hx⟩ : ∃ x, l.getD j default = x := ⟨_, rfl⟩
        rw [hx] at hr hok htx
        have HR := Lib.hid hr
        have hcall := does_any HS.out (bd_3000 (by have := HL150.out; omega)) HT1.out (HNN.out.1) x hok htx
        have HCALL := Lib.hid hcall
        have HLT := Lib.hid hlt
        clear hr hok htx hx hcall hlt hj
        go_upto_region 13 with (first | (refine wpList_load_mid rfl 41 _ rfl b (o + j * 6) rfl _ _ HR.out Tryz.underlying41 rfl (HSZ.out _) ?_) | (go_at_call 17; refine HCALL.out.mono ?_; rintro e w5 ⟨v5, rfl, hN⟩; have HN := Lib.hid hN; clear hN))
        obtain ⟨C2, g2, hs2, hle, hst⟩ := HN.out
        have hE2 := HE.out.1.stay hst HS.out.maps
        have hD2 := HE.out.2.1.later hle
        have HS2 := Lib.hid hs2
        have HE2 := Lib.hid (And.intro hE2 (And.intro hD2 HE.out.2.2))
        clear hs2 hle hst hE2 hD2 HN HE HS HR HCALL
        go_loopw [8, 10] (fun a k wx => ∃ (q : Nat) (ls : List rl.Ent), q ≤ n ∧ k = .int .i64 q ∧ Sys 5000000 w1 c n (20 * j + 20) bs C2 g2 wx ∧ EntsB 0 wx a ls ∧ cl.Done n g2 ls ∧ ls.length ≤ 10000) (fun _ k _ => n - (intOf k).toNat)
        case atStart => exact ⟨0, ls, Nat.zero_le _, rfl, HS2.out, HE2.out.1, HE2.out.2.1, HE2.out.2.2⟩
        case round =>
          obtain ⟨q, ls2, hq, rfl, hs, hE, hD, hls⟩ := hrel
          obtain ⟨Aa, ca, hform⟩ := hE.form
          subst hform
          have HS := Lib.hid hs
          have HE := Lib.hid (And.intro hE (And.intro hD hls))
          have hwq : IntKind.i64.wrap ((q : Int) + 1) = (q : Int) + 1 := wrap_i64_in (by omega) (by have := HNN.out; omega)
          clear hs hE hD hls HS2 HE2
          by_cases hltq : q < n
          · have hltqI : (q : Int) < (n : Int) := by omega
            have hcom := HS.out.com (bd_3000 (by have := HL150.out; have := HLT.out; omega)) hltq
            have hqn : q < C2.n := by rw [HS.out.cn]; exact hltq
            have hdq : cl.Done n g2 (shownLog C2 q) ∧ (shownLog C2 q).length ≤ 10000 := by
              unfold shownLog
              split
              · rename_i hu
                have h1 := (cl.done_of HS.out.inv hqn hu).2
                rw [HS.out.cn] at h1
                refine ⟨h1, ?_⟩
                have h2 := (HS.out.lim.up q hqn hu).len
                rw [List.length_take]
                have := HL150.out
                have := HLT.out
                omega
              · exact ⟨.inl rfl, Nat.zero_le _⟩
            obtain ⟨lq, hlq⟩ : ∃ x, shownLog C2 q = x := ⟨_, rfl⟩
            rw [hlq] at hcom hdq
            have hag : ∀ t, t < ls2.length → t < lq.length → ls2.getD t rl.e0 = lq.getD t rl.e0 := fun t h1 h2 => by
              have hinv := HS.out.inv
              have hcn := HS.out.cn
              have h3 := cl.done_same hinv (by rw [hcn]; exact HE.out.2.1) (by rw [hcn]; exact hdq.1) t h1 h2
              rw [List.getD_eq_getElem?_getD, List.getD_eq_getElem?_getD, h3]
            have HCOM := Lib.hid hcom
            have HDQ := Lib.hid hdq
            have HAG := Lib.hid hag
            have HLQ := Lib.hid hltq
            clear hcom hdq hag hltq hq hqn hlq
            go_upto_region 16 with (go_at_call 15; refine HCOM.out.mono ?_; rintro e w6 ⟨D6, d6, rfl, hown6, hb6⟩)
            have hE6 : EntsB 0 w6 (.slice D6 lq.length d6) lq := EntsB.of_owns hown6
            have hEa := HE.out.1.later hb6
            have HSAME := Lib.hid (same_true hEa.1 hE6.1 (by have := HE.out.2.2; omega) (by have := HDQ.out.2; omega) HAG.out)
            have HE6 := Lib.hid (And.intro hE6 hEa)
            have HS6 := Lib.hid (HS.out.later hb6)
            obtain ⟨na, hna⟩ : ∃ x, ls2.length = x := ⟨_, rfl⟩
            obtain ⟨nq, hnq⟩ : ∃ x, lq.length = x := ⟨_, rfl⟩
            rw [hna, hnq] at HSAME HE6
            rw [hna, hnq]
            have HNL := Lib.hid (And.intro hna hnq)
            clear hown6 hb6 hE6 hEa HCOM HAG hna hnq
            by_cases hgt : na < nq
            · have g1 : decide ((na : Int) < (nq : Int)) = true := decide_eq_true (by omega)
              have g2 : decide (na < nq) = true := decide_eq_true hgt
              clear hgt
              go_wp2_with (go_at_call 18; refine HSAME.out.mono ?_; rintro e w7 ⟨rfl, hb7⟩; have HB7 := Lib.hid hb7; clear hb7)
              go_roundw
              case rel => exact ⟨q + 1, lq, HLQ.out, by go_num, HS6.out.later HB7.out, HE6.out.1.later HB7.out, HDQ.out.1, HDQ.out.2⟩
              case measure => have := HLQ.out; simp [intOf]; omega
            · have g1 : decide ((na : Int) < (nq : Int)) = false := decide_eq_false (by omega)
              have g2 : decide (na < nq) = false := decide_eq_false hgt
              clear hgt
              go_wp2_with (go_at_call 18; refine HSAME.out.mono ?_; rintro e w7 ⟨rfl, hb7⟩; have HB7 := Lib.hid hb7; clear hb7)
              go_roundw
              case rel => exact ⟨q + 1, ls2, HLQ.out, by go_num, HS6.out.later HB7.out, HE6.out.2.later HB7.out, HE.out.2.1, HE.out.2.2⟩
              case measure => have := HLQ.out; simp [intOf]; omega
          · obtain rfl : q = n := by omega
            clear hltq hq hwq
            go_wp2_with fail
            go_roundw
            case rel => exact ⟨j + 1, C2, g2, ls2, HLT.out, by go_num, by rw [Nat.mul_succ]; exact HS.out, HE.out.1, HE.out.2.1, HE.out.2.2⟩
            case measure => have := HLT.out; simp [intOf]; omega
      · obtain rfl : j = L := by omega
        have hbel := HS.out.bel
        have HBEL := Lib.hid hbel
        clear hbel hlt hj hwj HS HE
        go_wp2_with fail
        go_ret
        exact ⟨rfl, HB1.out.trans (HBEL.out.mono HB1.out.size)⟩
end Go.Proofs.YtmcibggjolckoaaGreatDoor
