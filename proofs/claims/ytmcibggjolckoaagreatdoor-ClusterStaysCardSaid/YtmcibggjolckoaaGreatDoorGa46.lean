/- KcStays: one behind the other. -/
import Derived.Test.YtmcibggjolckoaaGreatDoorGa44
import Derived.Deep.DeepCutAuto
namespace Go.Proofs.YtmcibggjolckoaaGreatDoor
open Go Go.RowKit Go.Deep
set_option maxRecDepth 100000
set_option maxHeartbeats 16000000 in
theorem stays_any {w : World} {v : Value} {l : List cl.Act} (keep : Int) (hA : Acts w v l) (ht : TabAt w) :
    Calls Tryz.prog 8 #[v, .int .i64 keep] w fun e w' => e = .returned (.bool true) ∧ Below w.heap.size w w' := by
  have HBDD := Lib.hid (bounded_any hA)
  have HSH := Lib.hid (shown_any w ht)
  obtain ⟨A, cp, rfl, hlm, hlc, hac⟩ := hA
  obtain ⟨L, hL⟩ : ∃ n, l.length = n := ⟨_, rfl⟩
  have HAC := Lib.hid hac
  have HLL := Lib.hid hL
  have HT := Lib.hid ht
  rw [hL] at HBDD hlm hlc ⊢
  have hcI : (L : Int) ≤ (cp : Int) := by omega
  clear hac hL ht hlm hlc
  cases hbb : boundedB l with
  | false =>
    rw [hbb] at HBDD
    clear hbb
    go_enter Tryz.func8, Tryz.ntmps8
    go_wp2_with (first | (go_at_call 16; refine HBDD.out.mono ?_; rintro e w5 ⟨rfl, rfl⟩) | (go_at_call 10; refine HSH.out.mono ?_; rintro e w1 ⟨rfl, hb1⟩; have HB1 := Lib.hid hb1; clear hb1))
    go_ret
    exact ⟨rfl, HB1.out⟩
  | true =>
    rw [hbb] at HBDD
    obtain ⟨hl150, htx⟩ := bounded_yes hbb
    rw [HLL.out] at hl150
    have HL150 := Lib.hid hl150
    have HTX := Lib.hid htx
    clear hbb hl150 htx
    go_enter Tryz.func8, Tryz.ntmps8
    go_upto_region 3 with (first | (go_at_call 16; refine HBDD.out.mono ?_; rintro e w5 ⟨rfl, rfl⟩) | (go_at_call 10; refine HSH.out.mono ?_; rintro e w1 ⟨rfl, hb1⟩; have HB1 := Lib.hid hb1; clear hb1))
    have HT1 : Hid (TabAt w1) := Lib.hid (HT.out.below HB1.out HT.out.1)
    have HNEW := Lib.hid (new_sys 3 w1 (by decide) (by decide) HT1.out)
    go_upto_region 7 with (go_at_call 11; refine HNEW.out.mono ?_; rintro e w2 ⟨c, bs, rfl, hs2⟩; have HS2 := Lib.hid hs2; clear hs2)
    clear HNEW HBDD HSH
    have HACT : Hid (∀ W, Below w1.heap.size w1 W → ∀ j, j < L → ∃ b o, A = some ⟨b, o, none⟩ ∧ W.rangeAt b (o + j * 6) (actC (l.getD j default)) ∧ ActOk (l.getD j default) ∧ (l.getD j default).text.length ≤ 100) := Lib.hid fun W hb j hj => by
      obtain ⟨b, o, e, hc⟩ := HAC.out (by rw [HLL.out]; omega)
      obtain ⟨k1, k2⟩ := hc j (by rw [HLL.out]; exact hj)
      exact ⟨b, o, e, fun t u ht => cell_later hb (cell_later HB1.out (k1 t u ht)), k2, HTX.out j (by rw [HLL.out]; exact hj)⟩
    have HSZ : Hid (∀ x : cl.Act, (Tryz.prog.info? 41).map (·.size) = some (actC x).length) := Lib.hid fun x => by rw [act_size]; rfl
    go_loopw [7] (fun i wr => ∃ (j : Nat) (C : cl.Clu) (g : cl.Gh), j ≤ L ∧ i = .int .i64 j ∧ Sys 5000000 w1 c 3 (20 * j) bs C g wr) (fun i _ => L - (intOf i).toNat)
    case atStart => exact ⟨0, _, _, Nat.zero_le _, rfl, HS2.out⟩
    case round =>
      obtain ⟨j, C, g, hj, rfl, hs⟩ := hrel
      have HS := Lib.hid hs
      have hwj : IntKind.i64.wrap ((j : Int) + 1) = (j : Int) + 1 := wrap_i64_in (by omega) (by have := HL150.out; omega)
      clear hs
      by_cases hlt : j < L
      · have hltI : (j : Int) < (L : Int) := by omega
        obtain ⟨b, o, hAe, hr, hok, htx⟩ := HACT.out _ HS.out.bel j hlt
        subst hAe
        obtain ⟨x, hx⟩ : ∃ x, l.getD j default = x := ⟨_, rfl⟩
        rw [hx] at hr hok htx
        have HR := Lib.hid hr
        have hcall := does_any HS.out (bd_3000 (by have := HL150.out; omega)) HT1.out ((by decide)) x hok htx
        have HCALL := Lib.hid hcall
        have HLT := Lib.hid hlt
        clear hr hok htx hx hcall hlt hj
        go_wp2_with (first | (refine wpList_load_mid rfl 41 _ rfl b (o + j * 6) rfl _ _ HR.out Tryz.underlying41 rfl (HSZ.out _) ?_) | (go_at_call 17; refine HCALL.out.mono ?_; rintro e w5 ⟨v5, rfl, hN⟩; have HN := Lib.hid hN; clear hN))
        go_roundw
        case rel =>
          obtain ⟨C2, g2, s2, _, _⟩ := HN.out
          exact ⟨j + 1, C2, g2, HLT.out, by go_num, by rw [Nat.mul_succ]; exact s2⟩
        case measure => have := HLT.out; simp [intOf]; omega
      · obtain rfl : j = L := by omega
        have hs3 := HS.out.mono (M' := 3000) (by have := HL150.out; omega)
        have HS3 := Lib.hid hs3
        clear hs3 HS hlt hj hwj HS2
        go_upto_region 11 with fail
        go_loopw [8] (fun i wx => ∃ (q : Nat) (C : cl.Clu) (g : cl.Gh), q ≤ 3 ∧ i = .int .i64 q ∧ Sys 5000000 w1 c 3 3000 bs C g wx) (fun i _ => 3 - (intOf i).toNat)
        case atStart => exact ⟨0, C, g, Nat.zero_le _, rfl, HS3.out⟩
        case round =>
          obtain ⟨q, D, gd, hq, rfl, hs⟩ := hrel
          have HS := Lib.hid hs
          have hwq : IntKind.i64.wrap ((q : Int) + 1) = (q : Int) + 1 := wrap_i64_in (by omega) (by omega)
          clear hs HS3
          by_cases hlt : q < 3
          · have hltI : (q : Int) < 3 := by omega
            have hn1 := HS.out.node (i := q) hlt
            have hok := nodeOf_ok HS.out hlt
            obtain ⟨x, hx⟩ : ∃ x, nodeOf D q = x := ⟨_, rfl⟩
            rw [hx] at hn1 hok
            have HN1 := Lib.hid hn1
            have HOK := Lib.hid hok
            have HXE := Lib.hid hx
            have HLT := Lib.hid hlt
            clear hn1 hok hx hlt hq
            go_upto_region 14 with (first | (refine wpList_field rfl 50 (.tmp 47) 2 rfl _ rfl _ (field_state HOK.out _) ?_) | (go_at_call 19; refine HN1.out.mono ?_; rintro e w6 ⟨Ax, dx, rfl, hE6, hb6⟩; unfold ndV; have HE6 := Lib.hid hE6; have HB6 := Lib.hid hb6; clear hE6 hb6))
            have hb7 : Below wr.heap.size wr (w6.alloc (.cells #[.int .u64 (x.term : Int), .int .i64 x.vote, .slice Ax x.log.length dx] 46)) := HB6.out.trans (((Below.refl _ w6).alloc (Nat.le_refl _) _).mono HB6.out.size)
            have hv7 : Vb (w6.alloc (.cells #[.int .u64 (x.term : Int), .int .i64 x.vote, .slice Ax x.log.length dx] 46)) w6.heap.size [.int .u64 (x.term : Int), .int .i64 x.vote, .slice Ax x.log.length dx] 46 := Vb.new w6 _ _
            obtain ⟨W7, hW7⟩ : ∃ W, w6.alloc (.cells #[.int .u64 (x.term : Int), .int .i64 x.vote, .slice Ax x.log.length dx] 46) = W := ⟨_, rfl⟩
            obtain ⟨b1, hb1e⟩ : ∃ b, w6.heap.size = b := ⟨_, rfl⟩
            rw [hW7] at hb7 hv7 ⊢
            rw [hb1e] at hv7 ⊢
            have HV7 := Lib.hid hv7
            have HS7 := Lib.hid (HS.out.later hb7)
            have HE7 := Lib.hid (HE6.out.later hb7)
            have HUP := Lib.hid (HS7.out.isup HLT.out)
            clear hb7 hv7 hW7 hb1e HN1 HE6 HB6 HS
            cases hu : (D.p q).up with
            | false =>
              rw [hu] at HUP
              clear hu
              go_wp2_with (go_at_call 20; refine HUP.out.mono ?_; rintro e w8 ⟨rfl, hb8⟩; have HB8 := Lib.hid hb8; clear hb8)
              go_roundw
              case rel => exact ⟨q + 1, D, gd, HLT.out, by go_num, HS7.out.later HB8.out⟩
              case measure => have := HLT.out; simp [intOf]; omega
            | true =>
              rw [hu] at HUP
              have hqn : q < D.n := by rw [HS7.out.cn]; exact HLT.out
              have hlink : (D.p q).s = cl.stOf (D.p q).x := (HS7.out.inv.up q hqn hu).st
              have hxx : (D.p q).x = x := by rw [← HXE.out]; unfold nodeOf; rw [if_pos hu]
              have hcr := fun W (hb : Below W7.heap.size W7 W) => Sys.crash keep (HS7.out.later hb) HLT.out hu
              have hst : ∀ W g', Sys 5000000 w1 c 3 3000 bs (cl.fallen D q (D.p q).s zeroN) g' W → _ := fun W g' hs => Sys.start hs HT1.out HLT.out (by show (cl.upd D.p q _ q).up = false; rw [cl.upd_same])
              have hno : nodeOf (cl.started (cl.fallen D q (D.p q).s zeroN) q) q = rf.new (q : Int) (D.n : Int) x.term x.vote x.log := by
                have e1 : (cl.fallen D q (D.p q).s zeroN).p q = ⟨(D.p q).s, false, zeroN⟩ := cl.upd_same _ _ _
                have e2 : (cl.started (cl.fallen D q (D.p q).s zeroN) q).p q = ⟨((cl.fallen D q (D.p q).s zeroN).p q).s, true, rf.new (q : Int) (D.n : Int) ((cl.fallen D q (D.p q).s zeroN).p q).s.t ((cl.fallen D q (D.p q).s zeroN).p q).s.v ((cl.fallen D q (D.p q).s zeroN).p q).s.l⟩ := cl.upd_same _ _ _
                unfold nodeOf
                rw [e2, if_pos rfl, e1]
                dsimp only
                rw [hlink, hxx]
                rfl
              obtain ⟨D2, hD2⟩ : ∃ E, cl.started (cl.fallen D q (D.p q).s zeroN) q = E := ⟨_, rfl⟩
              obtain ⟨y, hy⟩ : ∃ y, rf.new (q : Int) (D.n : Int) x.term x.vote x.log = y := ⟨_, rfl⟩
              have hyf : y.term = x.term ∧ y.vote = x.vote ∧ y.log = x.log ∧ NOk y := by rw [← hy]; exact ⟨rfl, rfl, rfl, ⟨rfl, rfl, rfl, by intro z hz; simp [rf.new] at hz; omega, by intro z hz; simp [rf.new] at hz; omega⟩⟩
              simp only [hD2] at hst
              rw [hD2, hy] at hno
              have hnode : ∀ W g', Sys 5000000 w1 c 3 3000 bs D2 g' W → Calls Tryz.prog 19 #[.pointer (some ⟨c, 0, none⟩), .int .i64 (q : Int)] W fun e w' => ∃ A d, e = .returned (ndV y (.slice A x.log.length d)) ∧ EntsB 0 W (.slice A x.log.length d) x.log ∧ Below W.heap.size W w' := fun W g' hs => by
                have h := Sys.node hs HLT.out
                rw [hno, hyf.2.2.1] at h
                exact h
              have HCR := Lib.hid hcr
              have HST := Lib.hid hst
              have HND := Lib.hid hnode
              have HYF := Lib.hid hyf
              have HMP := Lib.hid HS7.out.maps
              have HLEN : Hid (x.log.length ≤ 100000) := Lib.hid (by rw [← hxx]; have := (HS7.out.lim.up q hqn hu).len; omega)
              clear hu hqn hlink hxx hcr hst hno hD2 hy hyf hnode
              have hb0 : Below W7.heap.size W7 W7 := Below.refl _ _
              go_upto_region 18 with (first | (go_at_call 20; refine HUP.out.mono ?_; rintro e w8 ⟨rfl, hb8⟩; have hb0 := hb0.trans (hb8.mono hb0.size)) | (go_at_call 23; refine (HCR.out _ hb0).mono ?_; rintro e w9 ⟨rfl, ⟨g9, hs9⟩, hst9⟩) | (go_at_call 22; refine (HST.out _ _ hs9).mono ?_; rintro e w10 ⟨rfl, ⟨g10, hs10⟩, hst10⟩) | (refine wpList_field rfl 50 (.tmp 66) 2 rfl _ rfl _ (field_state HYF.out.2.2.2 _) ?_) | (go_at_call 19; refine (HND.out _ _ hs10).mono ?_; rintro e w11 ⟨Ay, dy, rfl, hE11, hb11⟩; unfold ndV))
              obtain ⟨y1, y2, y3, y4⟩ := HYF.out
              rw [y1, y2]
              have hs7 := ((Stay.of_below hb0).trans hst9).trans hst10
              have hb12 : Below w10.heap.size w10 (w11.alloc (.cells #[.int .u64 (x.term : Int), .int .i64 x.vote, .slice Ay x.log.length dy] 46)) := hb11.trans (((Below.refl _ w11).alloc (Nat.le_refl _) _).mono hb11.size)
              have hs12 := hs7.trans (Stay.of_below hb12)
              have hv12 : Vb (w11.alloc (.cells #[.int .u64 (x.term : Int), .int .i64 x.vote, .slice Ay x.log.length dy] 46)) w11.heap.size [.int .u64 (x.term : Int), .int .i64 x.vote, .slice Ay x.log.length dy] 46 := Vb.new w11 _ _
              have hS12 := hs10.later hb12
              have hE12 := hE11.later hb12
              have hV12 := HV7.out.stay hs12 (by decide) HMP.out
              have hEx := HE7.out.stay hs12 HMP.out
              obtain ⟨W12, hW12⟩ : ∃ W, w11.alloc (.cells #[.int .u64 (x.term : Int), .int .i64 x.vote, .slice Ay x.log.length dy] 46) = W := ⟨_, rfl⟩
              obtain ⟨b2, hb2e⟩ : ∃ b, w11.heap.size = b := ⟨_, rfl⟩
              rw [hW12] at hv12 hS12 hE12 hV12 hEx ⊢
              rw [hb2e] at hv12 ⊢
              have z0 := hv12.cell 0 _ rfl
              have z1 := hv12.cell 1 _ rfl
              have z2 := hv12.cell 2 _ rfl
              have v0 := hV12.cell 0 _ rfl
              have v1 := hV12.cell 1 _ rfl
              have v2 := hV12.cell 2 _ rfl
              have HSAME := Lib.hid (same_true hE12.1 hEx.1 HLEN.out HLEN.out (fun _ _ _ => rfl))
              have HS12 := Lib.hid hS12
              clear hs7 hb12 hs12 hv12 hS12 hE12 hV12 hEx hW12 hb2e hb0 hb8 hs9 hst9 hs10 hst10 hE11 hb11 HCR HST HND HUP HE7 HV7 HS7 HMP HYF y1 y2 y3 y4
              go_wp2_with (go_at_call 18; refine HSAME.out.mono ?_; rintro e w13 ⟨rfl, hb13⟩; have HB13 := Lib.hid hb13; clear hb13)
              go_roundw
              case rel => exact ⟨q + 1, D2, _, HLT.out, by go_num, HS12.out.later HB13.out⟩
              case measure => have := HLT.out; simp [intOf]; omega
          · obtain rfl : q = 3 := by omega
            have hbel := HS.out.bel
            have HBEL := Lib.hid hbel
            clear hbel hlt hq hwq HS
            go_wp2_with fail
            go_ret
            exact ⟨rfl, HB1.out.trans (HBEL.out.mono HB1.out.size)⟩
end Go.Proofs.YtmcibggjolckoaaGreatDoor
