/- KcLogs: one behind the other. -/
import Derived.Test.YtmcibggjolckoaaGreatDoorGa44
import Derived.Deep.DeepCutAuto
import Derived.Deep.RegionHeld3
import Derived.BigQuiet
import Derived.Deep.QuietTactic
namespace Go.Proofs.YtmcibggjolckoaaGreatDoor
open Go Go.RowKit Go.Deep
set_option maxRecDepth 100000
theorem field_L (T : Nat) (V : Int) (u : Value) (w : World) : (Instr.field 46 (.agg #[.int .u64 (T : Int), .int .i64 V, u]) 2).run Tryz.prog w = .ok u w := by rfl
theorem Sys.logs {B : Nat} {w0 : World} {c n M : Nat} {bs : Nat → Nat} {C : cl.Clu} {g : cl.Gh} {w : World} (h : Sys B w0 c n M bs C g w) {a b : Nat} (ha : a < n) (hb : b < n) :
    ∀ m, m < (nodeOf C a).log.length → m < (nodeOf C b).log.length → ((nodeOf C a).log.getD m rl.e0).1 = ((nodeOf C b).log.getD m rl.e0).1 → ∀ j, j < m + 1 → (nodeOf C a).log.getD j rl.e0 = (nodeOf C b).log.getD j rl.e0 := by
  intro m h1 h2 h3 j hj
  have ha' : a < C.n := by rw [h.cn]; exact ha
  have hb' : b < C.n := by rw [h.cn]; exact hb
  unfold nodeOf at h1 h2 h3 ⊢
  cases hu : (C.p a).up with
  | false => rw [hu, if_neg (by decide)] at h1; exact absurd h1 (Nat.not_lt_zero _)
  | true =>
    cases hv : (C.p b).up with
    | false => rw [hv, if_neg (by decide)] at h2; exact absurd h2 (Nat.not_lt_zero _)
    | true =>
      rw [hu, if_pos rfl] at h1
      rw [hv, if_pos rfl] at h2
      rw [hu, if_pos rfl, hv, if_pos rfl] at h3
      rw [if_pos rfl, if_pos rfl]
      have l1 : (C.p a).s.l = (C.p a).x.log := congrArg cl.St.l (h.inv.up a ha' hu).st
      have l2 : (C.p b).s.l = (C.p b).x.log := congrArg cl.St.l (h.inv.up b hb' hv).st
      have hag := cl.logs_same (k := m) h.inv ha' hb' (by rw [l1]; exact h1) (by rw [l2]; exact h2) (by rw [l1, l2]; exact h3)
      rw [l1, l2] at hag
      rw [List.getD_eq_getElem?_getD, List.getD_eq_getElem?_getD, hag.2.2 j hj]
set_option maxHeartbeats 16000000 in
theorem logs_any {w : World} {v : Value} {l : List cl.Act} (xm : Nat) (hx256 : xm < 256) (hA : Acts w v l) (ht : TabAt w) :
    Calls Tryz.prog 6 #[.int .u8 (xm : Int), v] w fun e w' => e = .returned (.bool true) ∧ Below w.heap.size w w' := by
  obtain ⟨r, hr5⟩ : ∃ r, xm % 5 = r := ⟨_, rfl⟩
  have hr : r < 5 := by rw [← hr5]; exact Nat.mod_lt _ (by decide)
  have hwx : IntKind.i64.wrap (xm : Int) = (xm : Int) := wrap_i64_in (by omega) (by omega)
  have hm5 := tmod_nat xm 5
  rw [hr5] at hm5
  have hm5 : ((xm : Int)).tmod 5 = (r : Int) := hm5
  obtain ⟨n, hn⟩ : ∃ n, 1 + r = n := ⟨_, rfl⟩
  have hwn : IntKind.i64.wrap (1 + (r : Int)) = (n : Int) := by rw [IntKind.wrap_i64]; omega
  have HNN : Hid (1 ≤ n ∧ n ≤ 7) := Lib.hid (by omega)
  clear hr5 hr hn hx256
  have HBDD := Lib.hid (bounded_any hA)
  have HSH := Lib.hid (shown_any w ht)
  obtain ⟨A, cp, rfl, hlm, hlc, hac⟩ := hA
  obtain ⟨L, hL⟩ : ∃ n, l.length = n := ⟨_, rfl⟩
  have HAC := Lib.hid hac
  have HLL := Lib.hid hL
  have HT := Lib.hid ht
  rw [hL] at HBDD hlm hlc ⊢
  have hcI : (L : Int) ≤ (cp : Int) := by omega
  clear hac hL ht hlm hlc
  cases hbb : boundedB l with
  | false =>
    rw [hbb] at HBDD
    clear hbb
    go_enter Tryz.func6, Tryz.ntmps6
    go_wp2_with (first | (go_at_call 16; refine HBDD.out.mono ?_; rintro e w5 ⟨rfl, rfl⟩) | (go_at_call 10; refine HSH.out.mono ?_; rintro e w1 ⟨rfl, hb1⟩; have HB1 := Lib.hid hb1; clear hb1))
    go_ret
    exact ⟨rfl, HB1.out⟩
  | true =>
    rw [hbb] at HBDD
    obtain ⟨hl150, htx⟩ := bounded_yes hbb
    rw [HLL.out] at hl150
    have HL150 := Lib.hid hl150
    have HTX := Lib.hid htx
    clear hbb hl150 htx
    go_enter Tryz.func6, Tryz.ntmps6
    go_upto_region 4 with (first | (go_at_call 16; refine HBDD.out.mono ?_; rintro e w5 ⟨rfl, rfl⟩) | (go_at_call 10; refine HSH.out.mono ?_; rintro e w1 ⟨rfl, hb1⟩; have HB1 := Lib.hid hb1; clear hb1))
    have HT1 : Hid (TabAt w1) := Lib.hid (HT.out.below HB1.out HT.out.1)
    have HNEW := Lib.hid (new_sys n w1 HNN.out.1 HNN.out.2 HT1.out)
    go_upto_region 8 with (go_at_call 11; refine HNEW.out.mono ?_; rintro e w2 ⟨c, bs, rfl, hs2⟩; have HS2 := Lib.hid hs2; clear hs2)
    clear HNEW HBDD HSH
    have HACT : Hid (∀ W, Below w1.heap.size w1 W → ∀ j, j < L → ∃ b o, A = some ⟨b, o, none⟩ ∧ W.rangeAt b (o + j * 6) (actC (l.getD j default)) ∧ ActOk (l.getD j default) ∧ (l.getD j default).text.length ≤ 100) := Lib.hid fun W hb j hj => by
      obtain ⟨b, o, e, hc⟩ := HAC.out (by rw [HLL.out]; omega)
      obtain ⟨k1, k2⟩ := hc j (by rw [HLL.out]; exact hj)
      exact ⟨b, o, e, fun t u ht => cell_later hb (cell_later HB1.out (k1 t u ht)), k2, HTX.out j (by rw [HLL.out]; exact hj)⟩
    have HSZ : Hid (∀ x : cl.Act, (Tryz.prog.info? 41).map (·.size) = some (actC x).length) := Lib.hid fun x => by rw [act_size]; rfl
    go_loopw [8] (fun i wr => ∃ (j : Nat) (C : cl.Clu) (g : cl.Gh), j ≤ L ∧ i = .int .i64 j ∧ Sys 5000000 w1 c n (20 * j) bs C g wr) (fun i _ => L - (intOf i).toNat)
    case atStart => exact ⟨0, _, _, Nat.zero_le _, rfl, HS2.out⟩
    case round =>
      obtain ⟨j, C, g, hj, rfl, hs⟩ := hrel
      have HS := Lib.hid hs
      have hwj : IntKind.i64.wrap ((j : Int) + 1) = (j : Int) + 1 := wrap_i64_in (by omega) (by have := HL150.out; omega)
      clear hs
      by_cases hlt : j < L
      · have hltI : (j : Int) < (L : Int) := by omega
        obtain ⟨b, o, hAe, hr, hok, htx⟩ := HACT.out _ HS.out.bel j hlt
        subst hAe
        obtain ⟨x, hx⟩ : ∃ x, l.getD j default = x := ⟨_, rfl⟩
        rw [hx] at hr hok htx
        have HR := Lib.hid hr
        have hcall := does_any HS.out (bd_3000 (by have := HL150.out; omega)) HT1.out (HNN.out.1) x hok htx
        have HCALL := Lib.hid hcall
        have HLT := Lib.hid hlt
        clear hr hok htx hx hcall hlt hj
        go_wp2_with (first | (refine wpList_load_mid rfl 41 _ rfl b (o + j * 6) rfl _ _ HR.out Tryz.underlying41 rfl (HSZ.out _) ?_) | (go_at_call 17; refine HCALL.out.mono ?_; rintro e w5 ⟨v5, rfl, hN⟩; have HN := Lib.hid hN; clear hN))
        go_roundw
        case rel =>
          obtain ⟨C2, g2, s2, _, _⟩ := HN.out
          exact ⟨j + 1, C2, g2, HLT.out, by go_num, by rw [Nat.mul_succ]; exact s2⟩
        case measure => have := HLT.out; simp [intOf]; omega
      · obtain rfl : j = L := by omega
        obtain ⟨W3, hW3⟩ : ∃ W, wr = W := ⟨_, rfl⟩
        rw [hW3] at HS ⊢
        have hs3 := HS.out.mono (M' := 3000) (by have := HL150.out; omega)
        have HS3 := Lib.hid hs3
        clear hs3 HS hlt hj hwj HS2 hW3
        go_upto_region 12 with fail
        go_loopw [9] (fun a wx => ∃ q : Nat, q ≤ n ∧ a = .int .i64 q ∧ Below W3.heap.size W3 wx) (fun a _ => n - (intOf a).toNat)
        case atStart => exact ⟨0, Nat.zero_le _, rfl, Below.refl _ _⟩
        case round =>
          obtain ⟨q, hq, rfl, hbq⟩ := hrel
          have HBQ := Lib.hid hbq
          have hwq : IntKind.i64.wrap ((q : Int) + 1) = (q : Int) + 1 := wrap_i64_in (by omega) (by have := HNN.out; omega)
          clear hbq
          by_cases hltq : q < n
          · have hltqI : (q : Int) < (n : Int) := by omega
            have HLQ := Lib.hid hltq
            clear hltq hq
            go_upto_region 15 with fail
            go_loopw [10] (fun b wy => ∃ p : Nat, p ≤ q ∧ b = .int .i64 p ∧ Below W3.heap.size W3 wy) (fun b _ => q - (intOf b).toNat)
            case atStart => exact ⟨0, Nat.zero_le _, rfl, HBQ.out⟩
            case round =>
              obtain ⟨p, hp, rfl, hbp⟩ := hrel
              have hwp : IntKind.i64.wrap ((p : Int) + 1) = (p : Int) + 1 := wrap_i64_in (by omega) (by have := HNN.out; have := HLQ.out; omega)
              have HBP := Lib.hid hbp
              by_cases hltp : p < q
              · have hltpI : (p : Int) < (q : Int) := by omega
                have hpn : p < n := Nat.lt_trans hltp HLQ.out
                have hlg := HS3.out.logs HLQ.out hpn
                have hok1 := nodeOf_ok HS3.out HLQ.out
                have hok2 := nodeOf_ok HS3.out hpn
                have hlen : ∀ i, i < n → (nodeOf C i).log.length ≤ 10000 := fun i hi => by
                  unfold nodeOf
                  split
                  · rename_i hu
                    have := (HS3.out.lim.up i (by rw [HS3.out.cn]; exact hi) hu).len
                    omega
                  · exact Nat.zero_le _
                have hl1 := hlen q HLQ.out
                have hl2 := hlen p hpn
                have hn1 := fun W (hb : Below W3.heap.size W3 W) => (HS3.out.later hb).node (i := q) HLQ.out
                have hn2 := fun W (hb : Below W3.heap.size W3 W) => (HS3.out.later hb).node (i := p) hpn
                obtain ⟨xa, hxa⟩ : ∃ x, nodeOf C q = x := ⟨_, rfl⟩
                obtain ⟨xb, hxb⟩ : ∃ x, nodeOf C p = x := ⟨_, rfl⟩
                rw [hxa] at hok1 hl1
                rw [hxb] at hok2 hl2
                rw [hxa, hxb] at hlg
                simp only [hxa] at hn1
                simp only [hxb] at hn2
                have HLG := Lib.hid hlg
                have HO1 := Lib.hid hok1
                have HO2 := Lib.hid hok2
                have HN1 := Lib.hid hn1
                have HN2 := Lib.hid hn2
                have HLL := Lib.hid (And.intro hl1 hl2)
                have HLP := Lib.hid hltp
                clear hlg hok1 hok2 hlen hl1 hl2 hn1 hn2 hltp hp hpn hxa hxb
                have hcapA : Hid True := Lib.hid trivial
                go_upto_region 19 with (first | (refine wpList_field rfl 50 (.tmp 62) 2 rfl (.agg (ndC xa eva).toArray) rfl (.agg #[.int .u64 (xa.term : Int), .int .i64 xa.vote, eva]) (field_state HO1.out eva) ?_) | (refine wpList_field rfl 46 (.tmp 63) 2 rfl (.agg #[.int .u64 (xa.term : Int), .int .i64 xa.vote, eva]) rfl eva (field_L xa.term xa.vote eva) ?_) | (refine wpList_field rfl 50 (.tmp 67) 2 rfl (.agg (ndC xb evb).toArray) rfl (.agg #[.int .u64 (xb.term : Int), .int .i64 xb.vote, evb]) (field_state HO2.out evb) ?_) | (refine wpList_field rfl 46 (.tmp 68) 2 rfl (.agg #[.int .u64 (xb.term : Int), .int .i64 xb.vote, evb]) rfl evb (field_L xb.term xb.vote evb) ?_) | (go_at_call 19; refine (HN1.out _ hbp).mono ?_; rintro e w6 ⟨Aa, da, rfl, hEa, hb6⟩; unfold ndV; have hbp6 := Lib.hid (hbp.trans (hb6.mono hbp.size)); have HE1 := Lib.hid (hEa.later hb6); obtain ⟨eva, heva⟩ : ∃ v, Value.slice Aa xa.log.length da = v := ⟨_, rfl⟩; rw [heva]; have HEVA := Lib.hid heva; clear hbp hEa hb6 heva) | (go_at_call 19; refine (HN2.out _ hbp6.out).mono ?_; rintro e w7 ⟨Ab, db, rfl, hEb, hb7⟩; unfold ndV; have hbp7 := Lib.hid (hbp6.out.trans (hb7.mono hbp6.out.size)); have HE2 := Lib.hid (And.intro (HE1.out.later hb7) (hEb.later hb7)); obtain ⟨evb, hevb⟩ : ∃ v, Value.slice Ab xb.log.length db = v := ⟨_, rfl⟩; rw [hevb]; have HEVB := Lib.hid hevb; clear hEb hb7 hevb))
                rw [← HEVA.out, ← HEVB.out]
                obtain ⟨W8, hW8⟩ : ∃ W, w7 = W := ⟨_, rfl⟩
                rw [hW8] at HE2 hbp7 ⊢
                obtain ⟨na, hna⟩ : ∃ x, xa.log.length = x := ⟨_, rfl⟩
                obtain ⟨nb, hnb⟩ : ∃ x, xb.log.length = x := ⟨_, rfl⟩
                rw [hna, hnb] at HE2 HLL HLG ⊢
                have HNA := Lib.hid (And.intro hna hnb)
                obtain ⟨mn, hmn⟩ : ∃ x, min na nb = x := ⟨_, rfl⟩
                have hmnI : min (na : Int) (nb : Int) = (mn : Int) := by omega
                have hwk : IntKind.i64.wrap ((mn : Int) - 1) = (mn : Int) - 1 := wrap_i64_in (by omega) (by have := HLL.out; omega)
                have HMN : Hid (mn ≤ na ∧ mn ≤ nb) := Lib.hid (by omega)
                clear hW8 hna hnb hmn HEVA HEVB HN1 HN2 HE1 hbp6 HO1 HO2 hcapA
                go_upto_region 20 with fail
                go_loopw [13] (fun k wz => ∃ kk : Nat, kk ≤ mn ∧ k = .int .i64 ((kk : Int) - 1) ∧ Below W8.heap.size W8 wz) (fun k _ => (intOf k + 1).toNat)
                case atStart => exact ⟨mn, Nat.le_refl _, rfl, Below.refl _ _⟩
                case round =>
                  obtain ⟨kk, hkk, rfl, hbz⟩ := hrel
                  have HBZ := Lib.hid hbz
                  clear hbz
                  cases kk with
                  | zero =>
                    have hk0 : ((0 : Nat) : Int) - 1 = -1 := rfl
                    rw [hk0]
                    clear hkk
                    go_wp2_with fail
                    go_roundw
                    case rel => exact ⟨p + 1, HLP.out, by go_num, hbp7.out.trans (HBZ.out.mono hbp7.out.size)⟩
                    case measure => have := HLP.out; simp [intOf]; omega
                  | succ m =>
                    have hk0 : ((m + 1 : Nat) : Int) - 1 = (m : Int) := by omega
                    rw [hk0]
                    have hma : m < na := by have := HMN.out; omega
                    have hmb : m < nb := by have := HMN.out; omega
                    obtain ⟨⟨A1, c1, e1, ka, _, hA⟩, _⟩ := HE2.out.1
                    obtain ⟨⟨B1, c2, e2, kb, _, hB⟩, _⟩ := HE2.out.2
                    rw [HNA.out.1] at hA ka
                    rw [HNA.out.2] at hB kb
                    obtain ⟨b1, o1, hAe, hA2⟩ := hA (by omega)
                    obtain ⟨b2, o2, hBe, hB2⟩ := hB (by omega)
                    injection e1 with e1 _ e1c
                    injection e2 with e2 _ e2c
                    subst e1 e2 e1c e2c
                    subst hAe hBe
                    have x0 := cell_later HBZ.out (hA2 m (by rw [HNA.out.1]; exact hma)).1
                    have y0 := cell_later HBZ.out (hB2 m (by rw [HNA.out.2]; exact hmb)).1
                    obtain ⟨ta, hta⟩ : ∃ t, (xa.log.getD m rl.e0).1 = t := ⟨_, rfl⟩
                    obtain ⟨tb, htb⟩ : ∃ t, (xb.log.getD m rl.e0).1 = t := ⟨_, rfl⟩
                    rw [hta] at x0
                    rw [htb] at y0
                    have hmI : (m : Int) < (na : Int) := by omega
                    have hmI2 : (m : Int) < (nb : Int) := by omega
                    have hkaI : (na : Int) ≤ (da : Int) := by omega
                    have hkbI : (nb : Int) ≤ (db : Int) := by omega
                    have hwm : IntKind.i64.wrap ((m : Int) - 1) = (m : Int) - 1 := wrap_i64_in (by omega) (by have := HLL.out; omega)
                    have hwm1 : IntKind.i64.wrap ((m : Int) + 1) = (m : Int) + 1 := wrap_i64_in (by omega) (by have := HLL.out; omega)
                    have HLM := Lib.hid (And.intro hma (And.intro hmb hkk))
                    by_cases htt : ta = tb
                    · have hsame : ∀ W, Below W8.heap.size W8 W → Calls Tryz.prog 18 #[.slice (some ⟨b1, o1, none⟩) (m + 1) da, .slice (some ⟨b2, o2, none⟩) (m + 1) db] W fun e w' => e = .returned (.bool true) ∧ Below W.heap.size W w' := fun W hb => by
                        have t1 := ents_take (HE2.out.1.later hb).1 (m + 1) (by omega)
                        have t2 := ents_take (HE2.out.2.later hb).1 (m + 1) (by omega)
                        have hlim := HLL.out
                        refine same_true t1 t2 (by rw [List.length_take]; omega) (by rw [List.length_take]; omega) fun j h1 _ => ?_
                        rw [List.length_take] at h1
                        have h3 := HLG.out m (by omega) (by omega) (by rw [hta, htb]; exact htt) j (by omega)
                        rw [List.getD_eq_getElem?_getD, List.getD_eq_getElem?_getD, List.getElem?_take, List.getElem?_take, if_pos (by omega), if_pos (by omega), ← List.getD_eq_getElem?_getD, ← List.getD_eq_getElem?_getD]
                        exact h3
                      subst htt
                      have f1 : ((ta : Int) == (ta : Int)) = true := by simp
                      have HSM := Lib.hid hsame
                      have hmI3 : (m : Int) + 1 ≤ (na : Int) := by omega
                      have hmI4 : (m : Int) + 1 ≤ (nb : Int) := by omega
                      have hmI5 : (m : Int) + 1 ≤ (da : Int) := by omega
                      have hmI6 : (m : Int) + 1 ≤ (db : Int) := by omega
                      have hmI0 : (0 : Int) ≤ (m : Int) + 1 := by omega
                      have HBZ2 := HBZ
                      clear hsame hA hB hA2 hB2 hta htb hma hmb hkk ka kb
                      go_upto_region 22 with fail
                      go_quiet (fail)
                      go_upto_region 23 with fail
                      have hW := below_drewN (below_drewN HBZ2.out nq) 1
                      go_region_with (go_at_call 18; refine (HSM.out _ hW).mono ?_; rintro e w9 ⟨rfl, hb9⟩; have hW := hW.trans (hb9.mono hW.size))
                      all_goals
                        have HWF := Lib.hid hW
                        clear hW
                        go_wp2_with fail
                        go_roundw
                        case rel => exact ⟨p + 1, HLP.out, by go_num, hbp7.out.trans (HWF.out.mono hbp7.out.size)⟩
                        case measure => have := HLP.out; simp [intOf]; omega
                    · have f1 : ((ta : Int) == (tb : Int)) = false := by rw [beq_eq_false_iff_ne]; omega
                      clear hA hB hA2 hB2 hta htb hma hmb hkk htt ka kb
                      go_upto_region 22 with fail
                      go_quiet (fail)
                      go_wp2_with fail
                      go_roundw
                      case rel => exact ⟨m, by have := HLM.out; omega, by go_num, below_drewN HBZ.out _⟩
                      case measure => first | (simp [intOf]; done) | (simp [intOf]; omega)
              · obtain rfl : p = q := by omega
                clear hltp hp hwp hbp
                go_wp2_with fail
                go_roundw
                case rel => exact ⟨p + 1, HLQ.out, by go_num, HBP.out⟩
                case measure => have := HLQ.out; simp [intOf]; omega
          · obtain rfl : q = n := by omega
            have hbel := (HS3.out.later HBQ.out).bel
            have HBEL := Lib.hid hbel
            clear hbel hltq hq hwq HS3
            go_wp2_with fail
            go_ret
            exact ⟨rfl, HB1.out.trans (HBEL.out.mono HB1.out.size)⟩
end Go.Proofs.YtmcibggjolckoaaGreatDoor
