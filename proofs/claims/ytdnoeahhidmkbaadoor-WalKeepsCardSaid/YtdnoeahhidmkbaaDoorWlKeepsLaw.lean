/- WalKeeps walked: whatever comes in, it returns true. -/
import Derived.Deep.RegionLaw
import Derived.Deep.RegionHeld3
import Derived.Test.YtdnoeahhidmkbaaDoorWlResetsLaw
import Derived.Test.YtdnoeahhidmkbaaDoorWlActs
import Derived.Test.YtdnoeahhidmkbaaDoorWlApp
namespace Go.Proofs.YtdnoeahhidmkbaaDoor
open Go Go.RowKit
set_option maxRecDepth 100000

def LOGK : vd.Name := [108, 111, 103]
theorem LOGK_ok : wl.openE LOGK = true := by decide
namespace wl
open vd
/-- an Append under a fuse -/
theorem keeps_round {c : Nat} {k : Int} {l : L} {sure ts : List (List UInt8)} (j : Nat) (hl : l.off = false) (hln : l.name = LOGK) (ht : ∀ t ∈ ts, t.length ≤ 65535) (hr : (crcm.flat sure).length + (crcm.flat ts).length ≤ c) :
    ∃ T j' e, append ⟨c, [(LOGK, (crcm.flat sure, (crcm.flat sure).length))], false, j, k⟩ l ts = (⟨c, [(LOGK, (T, T.length))], decide (e ≠ 0), j', k⟩, told l e (l.many + ts.length), e) ∧ ((e = 0 ∧ T = crcm.flat (sure ++ ts)) ∨ (e = 6 ∧ ∃ q, T = crcm.flat sure ++ (crcm.flat ts).take q)) := by
  obtain ⟨T, j', e, h1, h2⟩ := append_cut (k := k) j LOGK_ok hr
  refine ⟨T, j', e, ?_, by rw [crcm.flat_append]; exact h2⟩
  unfold append change
  rw [if_neg (by rw [hl]; simp), bytes_fit ts ht, hln]
  show (if (0 : Nat) ≠ 0 then _ else ((run (appendOps LOGK (crcm.flat ts)) _).1, told l (run (appendOps LOGK (crcm.flat ts)) _).2 _, (run (appendOps LOGK (crcm.flat ts)) _).2)) = _
  rw [if_neg (by simp), h1]
end wl
theorem strs_take {w : World} {A : Option Addr} {c : Nat} {ls : List (List UInt8)} (h : Strs w (.slice A ls.length c) ls) (m : Nat) (hm : m ≤ ls.length) : Strs w (.slice A m c) (ls.take m) := by
  obtain ⟨A', c', e, hc⟩ := h
  injection e with e1 e2 e3
  subst e1 e3
  have hl : (ls.take m).length = m := by rw [List.length_take]; omega
  refine ⟨A, c, by rw [hl], fun k hk => ?_⟩
  rw [hl] at hk
  obtain ⟨ad, h1, h2⟩ := hc k (by omega)
  refine ⟨ad, h1, ?_⟩
  rw [h2, List.getD_eq_getElem?_getD, List.getD_eq_getElem?_getD, List.getElem?_take_of_lt hk]
set_option maxHeartbeats 8000000 in
theorem keeps_long (v : Value) (l : List wl.Act) (w : World) (hv : Acts w v l) (h : 40 < l.length) (ht : TabAt w) :
    Calls Tryd.prog 5 #[v] w fun e w' => e = .returned (.bool true) ∧ Below w.heap.size w w' := by
  obtain ⟨A, c, rfl, _⟩ := hv
  have hi : (40 : Int) < (l.length : Int) := by omega
  have hs := wal_shown w ht
  clear h
  go_enter Tryd.func5, Tryd.ntmps5
  go_wp2_with fail
  refine hs.mono ?_
  rintro e w1 ⟨rfl, hb⟩
  go_wp2_with fail
  go_ret
  exact ⟨rfl, hb⟩
set_option maxHeartbeats 16000000 in
theorem keeps_few (v : Value) (l : List wl.Act) (w : World) (hv : Acts w v l) (h : l.length ≤ 40) (ht : TabAt w) :
    Calls Tryd.prog 5 #[v] w fun e w' => e = .returned (.bool true) ∧ Below w.heap.size w w' := by
  obtain ⟨A, c, rfl, _, hA⟩ := hv
  obtain ⟨i0, hi, hz0, hz1, hz2⟩ := info_parts info_string
  have hs := wal_shown w ht
  obtain ⟨n, hn⟩ : ∃ n, l.length = n := ⟨_, rfl⟩
  rw [hn] at h hA ⊢
  have Q1 := Lib.hid (wl.st_new (c := 1000000) (k := 0) LOGK_ok (by omega))
  have HA : Hid (0 < n → ∃ b o, A = some ⟨b, o, none⟩ ∧ ∀ k, k < n → ActAt w b (o + k * 4) (l.getD k default)) := Lib.hid hA
  have HT := Lib.hid ht
  have hni : ¬ (40 : Int) < (n : Int) := by omega
  clear hA ht hn
  go_enter Tryd.func5, Tryd.ntmps5
  go_wp2_with fail
  refine hs.mono ?_
  rintro e w1 ⟨rfl, hb1⟩
  clear hs
  go_wp2_with fail
  refine (ld_new 1000000 (by omega) hb1).mono ?_
  rintro e w2 ⟨p, q, rfl, hd2, hb2⟩
  have hO := ld_open LOGK hd2 (by unfold LOGK; simp) HT.out
  go_wp2_with fail
  refine hO.mono ?_
  rintro e w3 h
  obtain ⟨A3, c3, g, rfl, hd3, hA3, hg3, _, hl3⟩ := h.ok Q1.out
  have hl3 : Lg w3 g p ⟨LOGK, 0, false⟩ := hl3
  have G : w.heap.size ≤ g := by have := hd2.bel.size; omega
  obtain ⟨W3, hW3⟩ : ∃ W, w3.alloc (.cells #[] 9) = W := ⟨_, rfl⟩
  have bW3 : Below w3.heap.size w3 W3 := by rw [← hW3]; exact (Below.refl _ w3).alloc (Nat.le_refl _) _
  have hw3 := hd3.bel.size
  have own3 : W3.ownsRow w.heap.size 9 1 (.slice (some ⟨w3.heap.size, 0, none⟩) 0 0) 0 [] := by
    rw [← hW3]
    exact ⟨by simp, .inr ⟨w3.heap.size, 0, #[], rfl, hw3, heap_alloc_new w3 _, Nat.le_refl _, Nat.zero_le _, rfl, by simp⟩⟩
  have hdW3 := hd3.later bW3
  have hlW3 := Lg.later hl3 bW3
  clear hO h hd2 hb1 hb2 hA3 hd3 hl3 bW3 hw3
  go_wp2_with fail
  go_loopw [4, 7, 8] (fun lv v i wr => ∃ (k : Nat) (sure : List (List UInt8)) (g : Nat) (kp : Int), k ≤ n ∧ i = .int .i64 k ∧ lv = .pointer (some ⟨g, 0, none⟩) ∧ w.heap.size ≤ g ∧ sure.length ≤ 10 * k ∧ (∀ t ∈ sure, t.length ≤ 200) ∧ wr.ownsRow w.heap.size 9 1 v sure.length (sure.map strV) ∧ Ldk w wr p q (wl.st 1000000 LOGK (crcm.flat sure) kp) ∧ Lg wr g p ⟨LOGK, sure.length, false⟩) (fun _ _ i _ => n - (intOf i).toNat)
  case atStart => exact ⟨0, [], g, 0, Nat.zero_le _, rfl, rfl, G, Nat.zero_le _, (fun t ht => by cases ht), own3, hdW3, hlW3⟩
  case round =>
    obtain ⟨k, sure, g, kp, hk, rfl, rfl, G, hall, hfit, hown, hd, hl⟩ := hrel
    have HG := Lib.hid G
    have HFIT := Lib.hid hfit
    clear hfit own3 hdW3 hlW3 hW3 G
    obtain ⟨A7, c7, hu7⟩ : ∃ A c, u7 = .slice A sure.length c := by
      rcases hown.2 with ⟨rfl, h0⟩ | ⟨y, cap, cur, rfl, _⟩
      · exact ⟨none, 0, by rw [h0]⟩
      · exact ⟨_, _, rfl⟩
    subst hu7
    by_cases hlt : k < n
    · obtain ⟨b, o, rfl, hacts⟩ := HA.out (by omega)
      have hax0 := hacts k hlt
      obtain ⟨x, hx⟩ : ∃ x, l.getD k default = x := ⟨_, rfl⟩
      rw [hx] at hax0
      have hax := hax0.below hd.bel
      obtain ⟨kind, xn, xkeep, tv, ts⟩ := x
      have k0 := hax.k0
      have k1 := hax.k1
      have k2 := hax.k2
      have k3 := hax.k3
      have htx := hax.texts
      have htop := hax.top
      simp only at k0 k1 k2 k3 htx htop
      obtain ⟨A4, c4, rfl, _⟩ : ∃ A c, tv = .slice A ts.length c ∧ True := by obtain ⟨⟨A, c, h, _⟩, _⟩ := htx; exact ⟨A, c, h, trivial⟩
      have hbd := wal_bounded kind xn xkeep _ ts wr htx
      have K3 : Hid (∀ w', Below w.heap.size w w' → w'.cell? ⟨b, o + k * 4 + 3, none⟩ = some (.slice A4 ts.length c4) ∧ w'.cell? ⟨b, o + k * 4 + 1, none⟩ = some (.int .i64 xn) ∧ w'.cell? ⟨b, o + k * 4 + 2, none⟩ = some (.int .i64 xkeep) ∧ Texts w' (.slice A4 ts.length c4) ts) := Lib.hid fun w' h => ⟨cell_later h hax0.k3, cell_later h hax0.k1, cell_later h hax0.k2, hax0.texts.below h⟩
      have HOWN := Lib.hid hown
      have HD := Lib.hid hd
      have HL := Lib.hid hl
      clear hax hax0 htx hx hacts hown hd hl
      cases hok : wl.okTexts ts with
      | false =>
        rw [hok] at hbd
        clear hok
        go_wp2_with fail
        refine hbd.mono ?_
        rintro e w4 ⟨rfl, b4⟩
        have b04 := HD.out.bel.trans (b4.mono HD.out.bel.size)
        go_wp2_with fail
        refine (wal_shown w4 (HT.out.below b04 HT.out.1)).mono ?_
        rintro e w5 ⟨rfl, b5⟩
        go_wp2_with fail
        go_ret
        exact ⟨rfl, b04.trans (b5.mono b04.size)⟩
      | true =>
        rw [hok] at hbd
        obtain ⟨f4, t4, l4⟩ := wl.flat_short hok
        have s4 := (wl.okTexts_iff.1 hok).1
        have S4 := Lib.hid s4
        have hfa := crcm.flat_le sure HFIT.out
        obtain ⟨j, hj⟩ : ∃ j, (max xn 0).toNat = j := ⟨_, rfl⟩
        obtain ⟨T, j', er, hq, her⟩ := wl.keeps_round (c := 1000000) (k := xkeep) (l := ⟨LOGK, sure.length, false⟩) (sure := sure) j rfl rfl t4 (by omega)
        have HQ := Lib.hid hq
        have HER := Lib.hid her
        have HF4 := Lib.hid f4
        have HT4 := Lib.hid t4
        clear hok s4 t4 hq her
        go_wp2_with fail
        refine hbd.mono ?_
        rintro e w4 ⟨rfl, b4⟩
        have own4 := owns_below HOWN.out b4
        have hd4 := HD.out.later b4
        have hl4 := Lg.later HL.out b4
        have hf := ld_fuse xn xkeep (show Ldk w w4.drew p q _ from hd4.next (.drew _ []) (by simp) hd4.dk.drew hd4.ok rfl) htop
        rw [hj] at hf
        have MK : Hid (∀ w', Apart [p] w4 w' → w'.cell? ⟨b, o + k * 4 + 1, none⟩ = some (.int .i64 xn) ∧ w'.cell? ⟨b, o + k * 4 + 2, none⟩ = some (.int .i64 xkeep)) := Lib.hid fun w' h => by
          have hb' : Below w.heap.size w w' := hd4.bel.trans (h.below _ hd4.bel.size (by have := hd4.hp; simp; omega))
          exact ⟨(K3.out w' hb').2.1, (K3.out w' hb').2.2.1⟩
        have hW : Apart [p] w4 w4.drew := .drew _ _
        obtain ⟨m1, m2⟩ := MK.out w4 (.refl _ _)
        have HR4 := Lib.hid (And.intro own4 (And.intro hd4 hl4))
        clear hbd k0 k1 k2 k3 own4 hd4 hl4 htop hj
        go_wp2_with fail
        go_region_held3 (fun w' => w'.cell? ⟨b, o + k * 4 + 1, none⟩ = some (.int .i64 xn) ∧ w'.cell? ⟨b, o + k * 4 + 2, none⟩ = some (.int .i64 xkeep)) (exact MK.out _ hW) (first | (go_at_call 18; refine hf.mono ?_; rintro e w5 ⟨rfl, hd5, hA5⟩; have hW := hW.trans hA5))
        obtain ⟨own4, hd4, hl4⟩ := HR4.out
        have own5 := own_kept own4 hd4.dk hl4 (hW.mono (by simp))
        have hl5 : Lg w5 g p ⟨LOGK, sure.length, false⟩ := hl4.apart hW (by have := log_out hl4 hd4.dk; simp at this ⊢; exact this.1)
        obtain ⟨m3, _, _, tx5⟩ := K3.out w5 hd5.bel
        have hc := ld_append _ ts hd5 hl5 HG.out tx5.1 (by omega) (by omega) (by unfold LOGK; simp) (by show sure.length ≤ _; omega) HT.out
        have e0 : ({ wl.st 1000000 LOGK (crcm.flat sure) kp with left := j, keep := xkeep } : vd.Disk) = ⟨1000000, [(LOGK, (crcm.flat sure, (crcm.flat sure).length))], false, j, xkeep⟩ := rfl
        rw [e0, HQ.out] at hc
        have R5 := Lib.hid (And.intro own5 (And.intro hd5 hl5))
        clear hf hW hA5 own4 hd4 hl4 own5 hd5 hl5 tx5 e0 m1 m2 MK
        go_wp2_with fail
        refine hc.mono ?_
        rintro e w6 ⟨rfl, hd6, hl6, hA6⟩
        obtain ⟨own5, hd5, hl5⟩ := R5.out
        have own6 := own_kept own5 hd5.dk hl5 hA6
        obtain ⟨m3b, _, _, tx6⟩ := K3.out w6 hd6.bel
        have tx6 := tx6.1
        clear hc hA6 own5 hd5 hl5 m3
        rcases HER.out with ⟨h0, hT0⟩ | ⟨h0, hT0⟩
        · subst h0
          have HTT := Lib.hid hT0
          clear hT0
          go_wp2_with (at_builtin; refine wpList_app_opt _ rfl _ _ 26 rfl w.heap.size 9 i0 (.string .empty) 1 16 Tryd.underlying26 hi hz0 hz1 hz2 rfl (by decide) _ _ _ rfl own6 A4 ts.length c4 (ts.map strV) rfl ?c1 ?c2 ?c3 ?c4 ?c5 ?c6 ?_)
          case c1 => rw [List.length_map, Nat.mul_one]
          case c2 => exact strs_cells tx6
          case c3 =>
            intro u hu
            obtain ⟨t, _, rfl⟩ := List.mem_map.1 hu
            rfl
          case c4 => unfold maxLen; omega
          case c5 => omega
          case c6 => exact hd6.bel.size
          intro v' w7 own7 hgr
          obtain ⟨hd7, hl7⟩ := ldk_own hd6 hl6 own6 hgr
          have own7 : w7.ownsRow w.heap.size 9 1 v' (sure ++ ts).length ((sure ++ ts).map strV) := by rw [List.length_append, List.map_append]; exact own7
          have hf := ld_fuse 0 0 hd7 (by omega)
          clear hd6 hl6 own6 hgr tx6 m3b
          go_wp2_with fail
          refine hf.mono ?_
          rintro e w8 ⟨rfl, hd8, hA8⟩
          have hl8 : Lg w8 g p ⟨LOGK, sure.length + ts.length, false⟩ := Vb.apart hl7 hA8 (by have := log_out hl7 hd7.dk; simp at this ⊢; exact this.1)
          have own8 := own_kept own7 hd7.dk hl7 (hA8.mono (by simp))
          rw [HTT.out] at hd8
          have hd8 : Ldk w w8 p q (wl.st 1000000 LOGK (crcm.flat (sure ++ ts)) 0) := hd8
          clear hf hd7 hl7 own7 hA8
          go_wp2_with fail
          go_roundw
          case rel =>
            refine ⟨k + 1, sure ++ ts, g, 0, by omega, by go_num, rfl, HG.out, by rw [List.length_append]; omega, ?_, own8, hd8, by rw [List.length_append]; exact hl8⟩
            intro t ht
            rcases List.mem_append.1 ht with h | h
            · exact HFIT.out t h
            · exact S4.out t h
          case measure => simp [intOf]; omega
        · subst h0
          obtain ⟨qq, hT1⟩ := hT0
          have hon := ld_on hd6
          have e1 : ({ (⟨1000000, [(LOGK, (T, T.length))], decide (6 ≠ 0), j', xkeep⟩ : vd.Disk) with off := false, left := 0 } : vd.Disk) = wl.st 1000000 LOGK T xkeep := rfl
          rw [e1] at hon
          obtain ⟨mm, hmm, hopen⟩ := wl.open_cut (c := 1000000) (k := xkeep) LOGK_ok (by omega) sure ts (fun t ht => by have := HFIT.out t ht; omega) HT4.out qq (by omega)
          rw [← hT1] at hopen
          have HOP := Lib.hid hopen
          have R6 := Lib.hid (And.intro own6 hl6)
          have HD6 := Lib.hid hd6
          clear hT1 e1 hopen own6 hl6 tx6 hd6
          go_wp2_with fail
          refine hon.mono ?_
          rintro e w7 ⟨rfl, hd7, hA7⟩
          obtain ⟨own6, hl6⟩ := R6.out
          have own7 := own_kept own6 HD6.out.dk hl6 (hA7.mono (by simp))
          have hl7 := Vb.apart hl6 hA7 (by have := log_out hl6 HD6.out.dk; simp at this ⊢; exact this.1)
          have hO := ld_open LOGK hd7 (by unfold LOGK; simp) HT.out
          have R7 := Lib.hid (And.intro own7 (And.intro hd7 hl7))
          clear hon hA7 own6 hl6 own7 hl7
          go_wp2_with fail
          refine hO.mono ?_
          rintro e w8 h
          obtain ⟨A8, c8, g8, rfl, hd8, hA8, hg8, hl8, own8⟩ := h.own HOP.out
          have own8 := owns_mono own8 hd7.bel.size
          obtain ⟨own7, _, hl7⟩ := R7.out
          have ownS := own_kept own7 hd7.dk hl7 (hA8.mono (by simp))
          have hgb : w.heap.size ≤ g8 := by have := hd7.bel.size; omega
          obtain ⟨LA, hLA⟩ : ∃ x, (sure ++ ts.take mm).length = x := ⟨_, rfl⟩
          have hLA2 : LA = sure.length + mm := by rw [← hLA, List.length_append, List.length_take]; omega
          have HLA := Lib.hid hLA
          have HLA2 := Lib.hid hLA2
          obtain ⟨LS, hLS⟩ : ∃ x, sure.length = x := ⟨_, rfl⟩
          have HLS := Lib.hid hLS
          obtain ⟨LT, hLT⟩ : ∃ x, ts.length = x := ⟨_, rfl⟩
          have HLT := Lib.hid hLT
          have hw1 : IntKind.i64.wrap ((LS : Int) + (LT : Int)) = (LS : Int) + LT := by rw [IntKind.wrap_i64]; omega
          obtain ⟨m3c, _, _, tx8⟩ := K3.out w8 hd8.bel
          have tx8 := tx8.1
          have c1i : ¬ (LA : Int) < (LS : Int) := by omega
          have c2i : ¬ ((LS : Int) + (LT : Int)) < (LA : Int) := by omega
          rw [hLA] at own8 hl8
          rw [hLS] at ownS
          rw [hLT] at tx8 m3c
          have R8 := Lib.hid (And.intro own8 (And.intro ownS (And.intro hd8 (And.intro hl8 tx8))))
          rw [hLA]
          rw [hLS]
          clear hLA2
          clear hO h hd7 hA8 own7 hl7 own8 ownS hd8 hl8 tx8
          go_wp2_with fail
          have HBA : Hid (Below w8.heap.size w8 (w8.alloc (.cells #[] 9))) := Lib.hid ((Below.refl _ w8).alloc (Nat.le_refl _) _)
          have HO0 : Hid ((w8.alloc (.cells #[] 9)).drew.ownsRow w8.heap.size 9 1 (.slice (some ⟨w8.heap.size, 0, none⟩) 0 0) 0 []) := Lib.hid ⟨by simp, .inr ⟨w8.heap.size, 0, #[], rfl, Nat.le_refl _, heap_alloc_new w8 _, Nat.le_refl _, Nat.zero_le _, by simp, by simp⟩⟩
          have HSU : Hid (Strs w8 (.slice A7 LS c7) sure) := Lib.hid (strs_of_owns HLS.out.symm R8.out.2.1)
          have HSU : Hid (∀ w', Below w8.heap.size w8 w' → (0 < LS → ∃ ad, A7 = some ad ∧ ∀ j u, (sure.map strV)[j]? = some u → w'.cell? (ad.add j) = some u)) := Lib.hid fun w' h hh => by
            have := HSU.out.below h
            rw [← HLS.out] at this
            exact strs_cells this (by rw [HLS.out]; exact hh)
          have HTS : Hid (∀ w', Below w8.heap.size w8 w' → (0 < LT → ∃ ad, A4 = some ad ∧ ∀ j u, (ts.map strV)[j]? = some u → w'.cell? (ad.add j) = some u)) := Lib.hid fun w' h hh => by
            have := R8.out.2.2.2.2.below h
            rw [← HLT.out] at this
            exact strs_cells this (by rw [HLT.out]; exact hh)
          have HL1 : Hid ((sure.map strV).length = LS * 1) := Lib.hid (by rw [List.length_map, HLS.out, Nat.mul_one])
          have HL2 : Hid ((ts.map strV).length = LT * 1) := Lib.hid (by rw [List.length_map, HLT.out, Nat.mul_one])
          have HON : Hid (∀ ls : List (List UInt8), ∀ u ∈ ls.map strV, u.oneCell' = true) := Lib.hid (by
            intro ls u hu
            obtain ⟨t, _, rfl⟩ := List.mem_map.1 hu
            rfl)
          have hLSb : LS ≤ 400 := by omega
          have hLTb : LT ≤ 10 := by omega
          have m3d := cell_later HBA.out m3c
          have HM3 := Lib.hid m3c
          clear hLA hLS hLT hw1 c1i c2i m3b
          go_region_law (first | (refine step_app_opt _ rfl (.tmp 121) (.tmp 122) 26 rfl w8.heap.size 9 i0 (.string .empty) 1 16 Tryd.underlying26 hi hz0 hz1 hz2 rfl (by decide) (.slice (some ⟨w8.heap.size, 0, none⟩) 0 0) 0 [] rfl HO0.out A7 LS c7 (sure.map strV) rfl HL1.out (HSU.out _ HBA.out.drew) (HON.out _) ?_ ?_ ?_ ?_; unfold maxLen; omega; omega; simp; intro v1 w10 hown1 hgrow1; have hb3 : Below w8.heap.size w8 w10 := (below_drewN HBA.out 1).grown hgrow1 (by simp) (fun j hj => by cases hj; exact Nat.le_refl _); have m3e := cell_later hb3 HM3.out) | (refine step_app_opt _ rfl (.tmp 123) (.tmp 128) 26 rfl w8.heap.size 9 i0 (.string .empty) 1 16 Tryd.underlying26 hi hz0 hz1 hz2 rfl (by decide) v1 _ _ rfl hown1 A4 LT c4 (ts.map strV) rfl HL2.out (HTS.out _ hb3) (HON.out _) ?_ ?_ ?_ ?_; unfold maxLen; omega; omega; exact hb3.size; intro v2 w11 hown2 hgrow2; have hb4 : Below w8.heap.size w8 w11 := hb3.grown hgrow2 hb3.size (fun j hj => (hown1.lt j hj).1)))
          all_goals
            obtain ⟨own8, ownS, hd8, hl8, tx8⟩ := R8.out
            have own2 : w11.ownsRow w8.heap.size 9 1 v2 (LS + LT) ((sure ++ ts).map strV) := by
              rw [List.map_append]
              rw [Nat.zero_add, List.nil_append] at hown2
              exact hown2
            obtain ⟨A9, c9, hv2, hc9⟩ : ∃ A c, v2 = .slice A (LS + LT) c ∧ LS + LT ≤ c := by
              rcases own2.2 with ⟨rfl, h0⟩ | ⟨y, cap, cur, rfl, _, _, hle, _⟩
              · exact ⟨none, 0, by rw [h0], by omega⟩
              · exact ⟨_, _, rfl, hle⟩
            subst hv2
            have hLL : LS + LT = (sure ++ ts).length := by rw [List.length_append, HLS.out, HLT.out]
            have s2 : Strs w11 (.slice A9 LA c9) (sure ++ ts.take mm) := by
              have h1 := strs_of_owns hLL own2
              rw [hLL] at h1
              have h2 := strs_take h1 LA (by rw [← hLL]; have := HLA2.out; have := HLS.out; have := HLT.out; omega)
              have h3 : (sure ++ ts).take LA = sure ++ ts.take mm := by
                rw [List.take_append, List.take_of_length_le (by have := HLA2.out; have := HLS.out; omega)]
                congr 2
                have := HLA2.out; have := HLS.out; omega
              rw [h3] at h2
              exact h2
            have own11 := owns_below own8 hb4
            have s1 : Strs w11 (.slice A8 LA c8) (sure ++ ts.take mm) := strs_of_owns HLA.out.symm own11
            have hd11 := hd8.later hb4
            have hl11 := Lg.later hl8 hb4
            have hcap : (LA : Int) ≤ (c9 : Int) := by have := HLA2.out; have := HLS.out; have := HLT.out; omega
            have hlm : (sure ++ ts.take mm).length ≤ maxLen := by rw [HLA.out]; unfold maxLen; have := HLA2.out; have := HLS.out; have := HLT.out; omega
            have R11 := Lib.hid (And.intro own11 (And.intro hd11 hl11))
            clear own8 ownS hd8 hl8 tx8 own2 hown1 hown2 hgrow1 hgrow2 hb3 hb4 own11 hd11 hl11 hLL hc9 m3e m3d m3c
            simp only [Exit.then]
            go_wp2_with fail
            refine (same_texts s1 s2 hlm).mono ?_
            rintro e w12 ⟨rfl, q12, hq⟩
            rw [decide_eq_true rfl]
            have b12 : Below w11.heap.size w11 w12 := by rw [← hq]; exact below_drewN (Below.refl _ _) _
            obtain ⟨own11, hd11, hl11⟩ := R11.out
            have own12 := owns_below own11 b12
            have hd12 := hd11.later b12
            have hl12 := Lg.later hl11 b12
            have R12 := Lib.hid (And.intro own12 (And.intro hd12 hl12))
            clear hq s1 s2 own11 hd11 hl11 own12 hd12 hl12 b12
            go_wp2_with fail
            go_roundw
            case rel =>
              obtain ⟨own12, hd12, hl12⟩ := R12.out
              refine ⟨k + 1, sure ++ ts.take mm, g8, xkeep, by omega, by go_num, rfl, hgb, ?_, ?_, by rw [HLA.out]; exact own12, hd12, by rw [HLA.out]; exact hl12⟩
              · rw [List.length_append, List.length_take]; omega
              · intro t ht
                rcases List.mem_append.1 ht with h | h
                · exact HFIT.out t h
                · exact S4.out t (List.mem_of_mem_take h)
            case measure => simp [intOf]; omega
    · obtain rfl : k = n := by omega
      have hfit := HFIT.out
      have HQ := Lib.hid (wl.st_open (c := 1000000) (k := kp) LOGK_ok sure (fun t ht => by have := hfit t ht; omega))
      have hO := ld_open LOGK hd (by unfold LOGK; simp) HT.out
      have hlm : sure.length ≤ maxLen := by unfold maxLen; omega
      have R := Lib.hid (And.intro hd (And.intro hl hown))
      clear hd hl hown hfit
      go_wp2_with fail
      refine hO.mono ?_
      rintro e w4 h
      obtain ⟨A4, c4, g4, rfl, hd4, hA4, _, hk4, _⟩ := h.ok HQ.out
      have s1 := hk4 w4 (.refl _ _)
      obtain ⟨rd, rl, ro⟩ := R.out
      have s2 := strs_of_owns rfl (own_kept ro rd.dk rl (hA4.mono (by simp)))
      have B4 := Lib.hid hd4.bel
      clear hO h hk4 hd4 hA4 rd rl ro
      go_wp2_with fail
      refine (same_texts s1 s2 hlm).mono ?_
      rintro e w5 ⟨rfl, q5, hq⟩
      rw [decide_eq_true rfl]
      have b5 : Below w4.heap.size w4 w5 := by rw [← hq]; exact below_drewN (Below.refl _ _) _
      clear hq
      go_wp2_with fail
      go_ret
      exact ⟨rfl, B4.out.trans (b5.mono B4.out.size)⟩
theorem keeps_law (v : Value) (l : List wl.Act) (w : World) (hv : Acts w v l) (ht : TabAt w) :
    Calls Tryd.prog 5 #[v] w fun e w' => e = .returned (.bool true) ∧ Below w.heap.size w w' := by
  by_cases h : 40 < l.length
  · exact keeps_long v l w hv h ht
  · exact keeps_few v l w hv (by omega) ht
end Go.Proofs.YtdnoeahhidmkbaaDoor
