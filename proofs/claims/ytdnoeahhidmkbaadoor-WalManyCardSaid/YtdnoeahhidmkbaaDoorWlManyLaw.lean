/- WalMany walked: whatever comes in, it returns true. -/
import Derived.Test.YtdnoeahhidmkbaaDoorWlResetsLaw
import Derived.Test.YtdnoeahhidmkbaaDoorWlActs
import Derived.Test.YtdnoeahhidmkbaaDoorWlApp
namespace Go.Proofs.YtdnoeahhidmkbaaDoor
open Go Go.RowKit
set_option maxRecDepth 100000

theorem Acts.below {w w' : World} {b o : Nat} {l : List wl.Act} (h : ∀ k, k < l.length → ActAt w b (o + k * 4) (l.getD k default)) (hb : Below w.heap.size w w') : ∀ k, k < l.length → ActAt w' b (o + k * 4) (l.getD k default) := fun k hk => (h k hk).below hb
def LOG : vd.Name := [108, 111, 103]
theorem LOG_ok : wl.openE LOG = true := by decide
/-- more than one text: a text that is too long -/
theorem wide_change {d : vd.Disk} {l : wl.L} (hl : l.off = false) {s : List UInt8} (hs : 65535 < s.length) (m : Nat) (op : List UInt8 → wl.Op1) : wl.change d l [s] m op = (d, l, 71) := by
  have hb : wl.bytes [s] = ([], 71) := by
    unfold wl.bytes
    rw [if_neg]
    rw [List.all_cons, Bool.and_eq_true]
    intro h
    have := of_decide_eq_true h.1
    omega
  unfold wl.change
  rw [if_neg (by rw [hl]; simp), hb]
  rfl
set_option maxHeartbeats 8000000 in
theorem many_long (v : Value) (l : List wl.Act) (w : World) (hv : Acts w v l) (h : 40 < l.length) (ht : TabAt w) :
    Calls Tryd.prog 4 #[v] w fun e w' => e = .returned (.bool true) ∧ Below w.heap.size w w' := by
  obtain ⟨A, c, rfl, _⟩ := hv
  have hi : (40 : Int) < (l.length : Int) := by omega
  have hs := wal_shown w ht
  clear h
  go_enter Tryd.func4, Tryd.ntmps4
  go_wp2_with fail
  refine hs.mono ?_
  rintro e w1 ⟨rfl, hb⟩
  go_wp2_with fail
  go_ret
  exact ⟨rfl, hb⟩
set_option maxHeartbeats 16000000 in
theorem many_few (v : Value) (l : List wl.Act) (w : World) (hv : Acts w v l) (h : l.length ≤ 40) (ht : TabAt w) :
    Calls Tryd.prog 4 #[v] w fun e w' => e = .returned (.bool true) ∧ Below w.heap.size w w' := by
  obtain ⟨A, c, rfl, _, hA⟩ := hv
  obtain ⟨i0, hi, hz0, hz1, hz2⟩ := info_parts info_string
  have hs := wal_shown w ht
  obtain ⟨n, hn⟩ : ∃ n, l.length = n := ⟨_, rfl⟩
  rw [hn] at h hA ⊢
  have Q1 := Lib.hid (wl.st_new (c := 1000000) (k := 0) LOG_ok (by omega))
  have HA : Hid (0 < n → ∃ b o, A = some ⟨b, o, none⟩ ∧ ∀ k, k < n → ActAt w b (o + k * 4) (l.getD k default)) := Lib.hid hA
  have HT := Lib.hid ht
  have hni : ¬ (40 : Int) < (n : Int) := by omega
  clear hA ht hn
  go_enter Tryd.func4, Tryd.ntmps4
  go_wp2_with fail
  refine hs.mono ?_
  rintro e w1 ⟨rfl, hb1⟩
  clear hs
  go_wp2_with fail
  refine (ld_new 1000000 (by omega) hb1).mono ?_
  rintro e w2 ⟨p, q, rfl, hd2, hb2⟩
  have hO := ld_open LOG hd2 (by unfold LOG; simp) HT.out
  go_wp2_with fail
  refine hO.mono ?_
  rintro e w3 h
  obtain ⟨A3, c3, g, rfl, hd3, hA3, hg3, _, hl3⟩ := h.ok Q1.out
  have hl3 : Lg w3 g p ⟨LOG, 0, false⟩ := hl3
  have G : Hid (w.heap.size ≤ g) := Lib.hid (by have := hd2.bel.size; omega)
  obtain ⟨W3, hW3⟩ : ∃ W, w3.alloc (.cells #[] 9) = W := ⟨_, rfl⟩
  have bW3 : Below w3.heap.size w3 W3 := by rw [← hW3]; exact (Below.refl _ w3).alloc (Nat.le_refl _) _
  have hw3 := hd3.bel.size
  have own3 : W3.ownsRow w.heap.size 9 1 (.slice (some ⟨w3.heap.size, 0, none⟩) 0 0) 0 [] := by
    rw [← hW3]
    exact ⟨by simp, .inr ⟨w3.heap.size, 0, #[], rfl, hw3, heap_alloc_new w3 _, Nat.le_refl _, Nat.zero_le _, rfl, by simp⟩⟩
  have hdW3 := hd3.later bW3
  have hlW3 := Lg.later hl3 bW3
  clear hO h hd2 hb1 hb2 hA3 hd3 hl3 bW3 hw3
  go_wp2_with fail
  go_loopw [6, 7, 8] (fun ev v i wr => ∃ (k : Nat) (all : List (List UInt8)), k ≤ n ∧ i = .int .i64 k ∧ ev = .int .i64 0 ∧ all.length ≤ 10 * k ∧ (∀ t ∈ all, t.length ≤ 200) ∧ wr.ownsRow w.heap.size 9 1 v all.length (all.map strV) ∧ Ldk w wr p q (wl.st 1000000 LOG (crcm.flat all) 0) ∧ Lg wr g p ⟨LOG, all.length, false⟩) (fun _ _ i _ => n - (intOf i).toNat)
  case atStart => exact ⟨0, [], Nat.zero_le _, rfl, rfl, Nat.zero_le _, (fun t ht => by cases ht), own3, hdW3, hlW3⟩
  case round =>
    obtain ⟨k, all, hk, rfl, rfl, hall, hfit, hown, hd, hl⟩ := hrel
    have HFIT := Lib.hid hfit
    clear hfit own3 hdW3 hlW3 hW3
    by_cases hlt : k < n
    · obtain ⟨b, o, rfl, hacts⟩ := HA.out (by omega)
      have hax := (hacts k hlt).below hd.bel
      obtain ⟨x, hx⟩ : ∃ x, l.getD k default = x := ⟨_, rfl⟩
      rw [hx] at hax
      obtain ⟨kind, xn, xkeep, tv, ts⟩ := x
      have k0 := hax.k0
      have k1 := hax.k1
      have k2 := hax.k2
      have k3 := hax.k3
      have htx := hax.texts
      simp only at k0 k1 k2 k3 htx
      obtain ⟨A4, c4, rfl, _⟩ : ∃ A c, tv = .slice A ts.length c ∧ True := by obtain ⟨⟨A, c, h, _⟩, _⟩ := htx; exact ⟨A, c, h, trivial⟩
      have hbd := wal_bounded kind xn xkeep _ ts wr htx
      have hax0 := hacts k hlt
      rw [hx] at hax0
      have K3 : Hid (∀ w', Below w.heap.size w w' → w'.cell? ⟨b, o + k * 4 + 3, none⟩ = some (.slice A4 ts.length c4) ∧ w'.cell? ⟨b, o + k * 4, none⟩ = some (.int .i64 kind) ∧ Texts w' (.slice A4 ts.length c4) ts) := Lib.hid fun w' h => ⟨cell_later h hax0.k3, cell_later h hax0.k0, hax0.texts.below h⟩
      have HTX := Lib.hid htx
      have HOWN := Lib.hid hown
      have HD := Lib.hid hd
      have HL := Lib.hid hl
      clear hax hax0 htx hx hacts hown hd hl
      cases hok : wl.okTexts ts with
      | false =>
        rw [hok] at hbd
        clear hok
        go_wp2_with fail
        refine hbd.mono ?_
        rintro e w4 ⟨rfl, b4⟩
        have b04 := HD.out.bel.trans (b4.mono HD.out.bel.size)
        go_wp2_with fail
        refine (wal_shown w4 (HT.out.below b04 HT.out.1)).mono ?_
        rintro e w5 ⟨rfl, b5⟩
        go_wp2_with fail
        go_ret
        exact ⟨rfl, b04.trans (b5.mono b04.size)⟩
      | true =>
        rw [hok] at hbd
        obtain ⟨f4, t4, l4⟩ := wl.flat_short hok
        have s4 := (wl.okTexts_iff.1 hok).1
        have S4 := Lib.hid s4
        clear hok s4
        have hfa := crcm.flat_le all HFIT.out
        have Q2 := Lib.hid (wl.st_append (c := 1000000) (k := 0) (S := crcm.flat all) (l := ⟨LOG, all.length, false⟩) rfl rfl LOG_ok ts t4 (by omega))
        have Q3 := Lib.hid (wl.st_reset (c := 1000000) (k := 0) (S := crcm.flat all) (l := ⟨LOG, all.length, false⟩) rfl rfl LOG_ok (by omega) ts t4 (by omega))
        have T4 := Lib.hid t4
        clear t4
        go_wp2_with fail
        refine hbd.mono ?_
        rintro e w4 ⟨rfl, b4⟩
        have own4 := owns_below HOWN.out b4
        have hd4 := HD.out.later b4
        have hl4 := Lg.later HL.out b4
        obtain ⟨k3, k0, tx4⟩ := K3.out w4 hd4.bel
        clear hbd k1 k2 b4
        by_cases h03 : kind = 0 ∨ kind = 1 ∨ kind = 2 ∨ kind = 3
        · rcases h03 with rfl | rfl | rfl | rfl
          all_goals (
            have hc := ld_append _ ts hd4 hl4 G.out tx4.1 (by omega) (by omega) (by unfold LOG; simp) (by show all.length ≤ _; omega) HT.out
            rw [Q2.out] at hc
            go_wp2_with fail
            refine hc.mono ?_
            rintro e w5 ⟨rfl, hd5, hl5, hA5⟩
            have own5 := own_kept own4 hd4.dk hl4 hA5
            obtain ⟨m3, m0, tx5⟩ := K3.out w5 hd5.bel
            have tx5 := tx5.1
            clear hc hA5 own4 tx4 hd4 hl4 k3 k0
            go_wp2_with (at_builtin; refine wpList_app_opt _ rfl _ _ 26 rfl w.heap.size 9 i0 (.string .empty) 1 16 Tryd.underlying26 hi hz0 hz1 hz2 rfl (by decide) _ _ _ rfl own5 A4 ts.length c4 (ts.map strV) rfl ?c1 ?c2 ?c3 ?c4 ?c5 ?c6 ?_)
            case c1 => rw [List.length_map, Nat.mul_one]
            case c2 => exact strs_cells tx5
            case c3 =>
              intro u hu
              obtain ⟨t, _, rfl⟩ := List.mem_map.1 hu
              rfl
            case c4 => unfold maxLen; omega
            case c5 => omega
            case c6 => exact hd5.bel.size
            intro v' w6 own6 hgr
            obtain ⟨hd6, hl6⟩ := ldk_own hd5 hl5 own5 hgr
            have own6 : w6.ownsRow w.heap.size 9 1 v' (all ++ ts).length ((all ++ ts).map strV) := by rw [List.length_append, List.map_append]; exact own6
            obtain ⟨A7, c7, rfl⟩ : ∃ A c, v' = .slice A (all.length + ts.length) c := by
              rcases own6.2 with ⟨rfl, h0⟩ | ⟨y, cap, cur, rfl, _⟩
              · rw [List.length_append] at h0
                exact ⟨none, 0, by rw [h0]⟩
              · rw [List.length_append]
                exact ⟨_, _, rfl⟩
            clear hd5 hl5 hgr own5 tx5 m3 m0
            have hl6 : Lg w6 g p ⟨LOG, all.length + ts.length, false⟩ := hl6
            have hmany := wal_many hl6
            have hoff := wal_off hl6
            have R6 := Lib.hid (And.intro hd6 hl6)
            clear hd6 hl6
            go_wp2_with fail
            refine hmany.mono ?_
            rintro e w7 ⟨rfl, rfl⟩
            clear hmany
            go_wp2_with fail
            refine hoff.mono ?_
            rintro e w8 ⟨rfl, rfl⟩
            clear hoff
            go_wp2_with fail
            go_roundw
            case rel =>
              obtain ⟨hd, hl⟩ := R6.out
              refine ⟨k + 1, all ++ ts, by omega, by go_num, rfl, by rw [List.length_append]; omega, ?_, ?_, ?_, ?_⟩
              · intro t ht
                rcases List.mem_append.1 ht with h | h
                · exact HFIT.out t h
                · exact S4.out t h
              · exact own6
              · rw [crcm.flat_append]; exact hd
              · rw [List.length_append]; exact hl
            case measure => simp [intOf]; omega
          )
        · have n0 : ¬ kind = 0 := fun h => h03 (.inl h)
          have n1 : ¬ kind = 1 := fun h => h03 (.inr (.inl h))
          have n2 : ¬ kind = 2 := fun h => h03 (.inr (.inr (.inl h)))
          have n3 : ¬ kind = 3 := fun h => h03 (.inr (.inr (.inr h)))
          clear h03
          by_cases n4 : kind = 4
          · subst n4
            have hc := ld_reset _ ts hd4 hl4 G.out tx4.1 (by omega) (by omega) (by unfold LOG; simp) HT.out
            rw [Q3.out] at hc
            go_wp2_with fail
            refine hc.mono ?_
            rintro e w5 ⟨rfl, hd5x, hl5x, hA5⟩
            obtain ⟨W5, hW5⟩ : ∃ W, w5.alloc (.cells #[] 9) = W := ⟨_, rfl⟩
            have bW5 : Below w5.heap.size w5 W5 := by rw [← hW5]; exact (Below.refl _ w5).alloc (Nat.le_refl _) _
            have hw5 := hd5x.bel.size
            have own5 : W5.ownsRow w.heap.size 9 1 (.slice (some ⟨w5.heap.size, 0, none⟩) 0 0) 0 [] := by
              rw [← hW5]
              exact ⟨by simp, .inr ⟨w5.heap.size, 0, #[], rfl, hw5, heap_alloc_new w5 _, Nat.le_refl _, Nat.zero_le _, rfl, by simp⟩⟩
            have hd5 := hd5x.later bW5
            have hl5 := Lg.later hl5x bW5
            obtain ⟨m3, m0, tx5⟩ := K3.out W5 hd5.bel
            have tx5 := tx5.1
            clear hc hA5 own4 tx4 hd4 hl4 hd5x hl5x bW5 hw5 k3 k0
            go_wp2_with (at_builtin; refine wpList_app_opt _ rfl _ _ 26 rfl w.heap.size 9 i0 (.string .empty) 1 16 Tryd.underlying26 hi hz0 hz1 hz2 rfl (by decide) _ _ _ rfl own5 A4 ts.length c4 (ts.map strV) rfl ?c1 ?c2 ?c3 ?c4 ?c5 ?c6 ?_)
            case c1 => rw [List.length_map, Nat.mul_one]
            case c2 => exact strs_cells tx5
            case c3 =>
              intro u hu
              obtain ⟨t, _, rfl⟩ := List.mem_map.1 hu
              rfl
            case c4 => unfold maxLen; omega
            case c5 => omega
            case c6 => exact hd5.bel.size
            intro v' w6 own6 hgr
            obtain ⟨hd6, hl6⟩ := ldk_own hd5 hl5 own5 hgr
            have own6 : w6.ownsRow w.heap.size 9 1 v' ts.length (ts.map strV) := by simpa using own6
            obtain ⟨A7, c7, rfl⟩ : ∃ A c, v' = .slice A ts.length c := by
              rcases own6.2 with ⟨rfl, h0⟩ | ⟨y, cap, cur, rfl, _⟩
              · exact ⟨none, 0, by rw [h0]⟩
              · exact ⟨_, _, rfl⟩
            clear hd5 hl5 hgr own5 tx5 m3 m0 hW5
            have hl6 : Lg w6 g p ⟨LOG, ts.length, false⟩ := hl6
            have hmany := wal_many hl6
            have hoff := wal_off hl6
            have R6 := Lib.hid (And.intro hd6 hl6)
            clear hd6 hl6
            go_wp2_with fail
            refine hmany.mono ?_
            rintro e w7 ⟨rfl, rfl⟩
            clear hmany
            go_wp2_with fail
            refine hoff.mono ?_
            rintro e w8 ⟨rfl, rfl⟩
            clear hoff
            go_wp2_with fail
            go_roundw
            case rel =>
              obtain ⟨hd, hl⟩ := R6.out
              exact ⟨k + 1, ts, by omega, by go_num, rfl, by omega, S4.out, own6, hd, hl⟩
            case measure => simp [intOf]; omega
          · by_cases n5 : kind = 5
            · subst n5
              obtain ⟨M, hM⟩ : ∃ m : Nat, m = 65536 := ⟨_, rfl⟩
              obtain ⟨Z, sz, hsz, hmk, hcv⟩ := wnoughts M (by omega)
              have hMi : (M : Int) = 65536 := by omega
              rw [hMi] at hmk
              have hszl : sz.data.toList.length = 65536 := by rw [crcm.size_len, hsz, hM]
              have hflat : (crcm.flat [sz.data.toList]).length ≤ 1000000000 := by
                rw [show crcm.flat [sz.data.toList] = crcm.body sz.data.toList from by simp [crcm.flat], crcm.body_len]; omega
              have QA : Hid (wl.append (wl.st 1000000 LOG (crcm.flat all) 0) ⟨LOG, all.length, false⟩ [sz.data.toList] = (wl.st 1000000 LOG (crcm.flat all) 0, ⟨LOG, all.length, false⟩, 71)) := Lib.hid (wide_change rfl (by omega) _ _)
              have QR : Hid (wl.reset (wl.st 1000000 LOG (crcm.flat all) 0) ⟨LOG, all.length, false⟩ [sz.data.toList] = (wl.st 1000000 LOG (crcm.flat all) 0, ⟨LOG, all.length, false⟩, 71)) := Lib.hid (wide_change rfl (by omega) _ _)
              have hstr : ∀ W : World, Strs ((W.alloc (Z W)).alloc (.cells #[.string sz] 9)) (.slice (some ⟨W.heap.size + 1, 0, none⟩) 1 1) [sz.data.toList] := fun W => by
                have := strs_new (W.alloc (Z W)) [sz.data.toList] _ (show #[Value.string sz] = _ by simp [strV, crcm.mk_of])
                rw [show (W.alloc (Z W)).heap.size = W.heap.size + 1 from Array.size_push _] at this
                exact this
              have hbel : ∀ W : World, Below W.heap.size W ((W.alloc (Z W)).alloc (.cells #[.string sz] 9)) := fun W => ((Below.refl _ W).alloc (Nat.le_refl _) _).alloc (by simp) _
              have HSTR := Lib.hid hstr
              have HBEL := Lib.hid hbel
              have HFL := Lib.hid hflat
              have HMK := Lib.hid hmk
              have HCV := Lib.hid hcv
              have hmk1 := hmk w4
              have hcv1 := hcv w4
              have hc := ld_append _ _ (hd4.later (hbel w4)) (Lg.later hl4 (hbel w4)) G.out (hstr w4) hflat (by simp) (by unfold LOG; simp) (by show all.length ≤ _; omega) HT.out
              rw [QA.out] at hc
              have own4b := owns_below own4 (hbel w4)
              have hd4b := hd4.later (hbel w4)
              have hl4b := Lg.later hl4 (hbel w4)
              clear hM hMi hsz hmk hcv hszl hflat hstr hbel own4 hd4 hl4 tx4
              go_wp2_with fail
              refine hc.mono ?_
              rintro e w5 ⟨rfl, hd5, hl5, hA5⟩
              have own5 := own_kept own4b hd4b.dk hl4b hA5
              have hmk1 := HMK.out w5
              have hcv1 := HCV.out w5
              have hc2 := ld_reset _ _ (hd5.later (HBEL.out w5)) (Lg.later hl5 (HBEL.out w5)) G.out (HSTR.out w5) HFL.out (by simp) (by unfold LOG; simp) HT.out
              rw [QR.out] at hc2
              have own5b := owns_below own5 (HBEL.out w5)
              have hd5b := hd5.later (HBEL.out w5)
              have hl5b := Lg.later hl5 (HBEL.out w5)
              clear hc own4b hd4b hl4b hA5 own5 hd5 hl5
              go_wp2_with fail
              refine hc2.mono ?_
              rintro e w6 ⟨rfl, hd6, hl6, hA6⟩
              have own6 := own_kept own5b hd5b.dk hl5b hA6
              clear hc2 own5b hd5b hl5b hA6 hmk1 hcv1
              obtain ⟨A7, c7, rfl⟩ : ∃ A c, u7 = .slice A all.length c := by
                rcases own6.2 with ⟨rfl, h0⟩ | ⟨y, cap, cur, rfl, _⟩
                · exact ⟨none, 0, by rw [h0]⟩
                · exact ⟨_, _, rfl⟩
              have hmany := wal_many hl6
              have hoff := wal_off hl6
              have R6 := Lib.hid (And.intro hd6 hl6)
              clear hd6 hl6
              go_wp2_with fail
              refine hmany.mono ?_
              rintro e w7 ⟨rfl, rfl⟩
              clear hmany
              go_wp2_with fail
              refine hoff.mono ?_
              rintro e w8 ⟨rfl, rfl⟩
              clear hoff
              go_wp2_with fail
              go_roundw
              case rel =>
                obtain ⟨hd, hl⟩ := R6.out
                exact ⟨k + 1, all, by omega, by go_num, rfl, by omega, HFIT.out, own6, hd, hl⟩
              case measure => simp [intOf]; omega
            · have own6 := own4
              have hd6 := hd4
              have hl6 := hl4
              clear own4 hd4 hl4 tx4
              obtain ⟨A7, c7, rfl⟩ : ∃ A c, u7 = .slice A all.length c := by
                rcases own6.2 with ⟨rfl, h0⟩ | ⟨y, cap, cur, rfl, _⟩
                · exact ⟨none, 0, by rw [h0]⟩
                · exact ⟨_, _, rfl⟩
              have hmany := wal_many hl6
              have hoff := wal_off hl6
              have R6 := Lib.hid (And.intro hd6 hl6)
              clear hd6 hl6
              go_wp2_with fail
              refine hmany.mono ?_
              rintro e w7 ⟨rfl, rfl⟩
              clear hmany
              go_wp2_with fail
              refine hoff.mono ?_
              rintro e w8 ⟨rfl, rfl⟩
              clear hoff
              go_wp2_with fail
              go_roundw
              case rel =>
                obtain ⟨hd, hl⟩ := R6.out
                exact ⟨k + 1, all, by omega, by go_num, rfl, by omega, HFIT.out, own6, hd, hl⟩
              case measure => simp [intOf]; omega
    · obtain rfl : k = n := by omega
      have hfit := HFIT.out
      have ho := wl.st_open (c := 1000000) (k := 0) LOG_ok all (fun t ht => by have := hfit t ht; omega)
      have HQ := Lib.hid ho
      have hO := ld_open LOG hd (by unfold LOG; simp) HT.out
      have hst := strs_of_owns rfl hown
      obtain ⟨A7, c7, rfl⟩ : ∃ A c, u7 = .slice A all.length c := by
        obtain ⟨A', c', e, _⟩ := hst
        exact ⟨A', c', e⟩
      have hlm : all.length ≤ maxLen := by unfold maxLen; omega
      have R := Lib.hid (And.intro hd (And.intro hl hown))
      clear hd hl hown hst hfit ho
      go_wp2_with fail
      refine hO.mono ?_
      rintro e w4 h
      obtain ⟨A4, c4, g4, rfl, hd4, hA4, _, hk4, _⟩ := h.ok HQ.out
      have s1 := hk4 w4 (.refl _ _)
      obtain ⟨rd, rl, ro⟩ := R.out
      have s2 := strs_of_owns rfl (own_kept ro rd.dk rl (hA4.mono (by simp)))
      have B4 := Lib.hid hd4.bel
      clear hO h hk4 hd4 hA4 rd rl ro
      go_wp2_with fail
      refine (same_texts s1 s2 hlm).mono ?_
      rintro e w5 ⟨rfl, q5, hq⟩
      rw [decide_eq_true rfl]
      have b5 : Below w4.heap.size w4 w5 := by rw [← hq]; exact below_drewN (Below.refl _ _) _
      clear hq
      go_wp2_with fail
      go_ret
      exact ⟨rfl, B4.out.trans (b5.mono B4.out.size)⟩
theorem many_law (v : Value) (l : List wl.Act) (w : World) (hv : Acts w v l) (ht : TabAt w) :
    Calls Tryd.prog 4 #[v] w fun e w' => e = .returned (.bool true) ∧ Below w.heap.size w w' := by
  by_cases h : 40 < l.length
  · exact many_long v l w hv h ht
  · exact many_few v l w hv (by omega) ht
end Go.Proofs.YtdnoeahhidmkbaaDoor
