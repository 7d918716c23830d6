/- CrcCut walked: whatever comes in, it returns true. -/
import Derived.Test.YtckgnckhmkgeeaaDoorCrcShown
import Derived.Test.YtckgnckhmkgeeaaDoorCrcAllIt
import Derived.Test.YtckgnckhmkgeeaaDoorCrcCutMath
namespace Go.Proofs.YtckgnckhmkgeeaaDoor
open Go Go.RowKit

theorem add_mk' {P : Program} (a b : List UInt8) (h : a.length + b.length ≤ 9223372036854775807) (W : World) : (Op.stringOp .add (crcm.mk a) (crcm.mk b)).run P W = .ok (.string (crcm.mk (a ++ b))) W := by
  rw [run_string_add_sum _ _ _ (by rw [crcm.mk_size, crcm.mk_size]; exact h), crcm.mk_append]

theorem cut_many (v : Value) (ls : List (List UInt8)) (x : Nat) (w : World) (hl : Texts w v ls) (h : 30 < ls.length) (ht : TabAt w) :
    Calls Tryd.prog 8 #[v, .int .u16 (x : Int)] w fun e w' => e = .returned (.bool true) ∧ Below w.heap.size w w' := by
  obtain ⟨⟨A, c, rfl, _⟩, h2, _⟩ := hl
  unfold maxLen at h2
  go_enter Tryd.func8, Tryd.ntmps8
  go_wp2_with (go_at_call 9; refine (shown_any _ ht).mono ?_; rintro e w1 ⟨rfl, hb1⟩)
  go_ret
  exact ⟨rfl, hb1⟩

set_option maxHeartbeats 8000000 in
theorem cut_few (A : Option Addr) (c x : Nat) (ls : List (List UInt8)) (w : World) (hx : x < 65536) (hA : ∀ k, k < ls.length → ∃ ad, A = some ad ∧ w.cell? (ad.add k) = some (.string (crcm.mk (ls.getD k [])))) (hm : ∀ t ∈ ls, t.length ≤ maxLen) (hc : ls.length ≤ c) (h : ls.length ≤ 30) (ht : TabAt w) :
    Calls Tryd.prog 8 #[.slice A ls.length c, .int .u16 (x : Int)] w fun e w' => e = .returned (.bool true) ∧ Below w.heap.size w w' := by
  obtain ⟨n, hn⟩ : ∃ n, ls.length = n := ⟨_, rfl⟩
  rw [hn] at hA hc h ⊢
  have Hn := Lib.hid hn
  clear hn
  have HA := Lib.hid hA
  clear hA
  go_enter Tryd.func8, Tryd.ntmps8
  go_wp2_with fail
  refine (shown_any _ ht).mono ?_
  rintro e w1 ⟨rfl, hb1⟩
  go_wp2_with fail
  go_loopw [5, 6] (fun s i wr => ∃ k : Nat, k ≤ n ∧ i = .int .i64 k ∧ s = .string (crcm.mk (crcm.flat (ls.take k))) ∧ (∀ t ∈ ls.take k, t.length ≤ 200) ∧ Below w.heap.size w wr) (fun _ i _ => n - (intOf i).toNat)
  case atStart => exact ⟨0, Nat.zero_le _, rfl, rfl, fun t ht => by simp at ht, hb1⟩
  case round =>
    obtain ⟨k, hk, rfl, rfl, h200, hbel⟩ := hrel
    have htr := ht.below hbel ht.1
    clear hb1
    have hfl := crcm.flat_le _ h200
    have hkl : (ls.take k).length ≤ k := by rw [List.length_take]; omega
    have h200' := Lib.hid h200
    clear h200
    by_cases hlt : k < n
    · obtain ⟨a1, rfl, c1⟩ := HA.out k hlt
      have c1' := cell_later hbel c1
      have hmem : ls.getD k [] ∈ ls := by
        rw [List.getD_eq_getElem?_getD, List.getElem?_eq_getElem (by rw [Hn.out]; exact hlt)]; exact List.getElem_mem _
      have htm := hm _ hmem
      have hsn : ls.take (k + 1) = ls.take k ++ [ls.getD k []] := by
        rw [List.take_add_one, List.getD_eq_getElem?_getD, List.getElem?_eq_getElem (by rw [Hn.out]; exact hlt)]; rfl
      obtain ⟨t, hte⟩ : ∃ t, ls.getD k [] = t := ⟨_, rfl⟩
      rw [hte] at c1' htm hsn
      clear hmem hte c1 hm
      have Hsn := Lib.hid hsn
      clear hsn
      have hsz : (crcm.mk t).size ≤ maxLen := by rw [crcm.mk_size]; exact htm
      by_cases hlong : 200 < t.length
      · have hlong2 : 200 < (crcm.mk t).size := by rw [crcm.mk_size]; exact hlong
        unfold maxLen at hsz
        go_wp2_with (go_at_call 9; refine (shown_any _ htr).mono ?_; rintro e w3 ⟨rfl, hb3⟩)
        go_ret
        exact ⟨rfl, hbel.trans (hb3.mono hbel.size)⟩
      · have hshort : (crcm.mk t).size ≤ 200 := by rw [crcm.mk_size]; omega
        obtain ⟨F, hF⟩ : ∃ F, crcm.flat (ls.take k) = F := ⟨_, rfl⟩
        rw [hF] at hfl ⊢
        have hsnF : crcm.flat (ls.take (k + 1)) = F ++ crcm.body t := by rw [Hsn.out, crcm.flat_snoc, hF]
        have HsnF := Lib.hid hsnF
        have hbl := crcm.body_len t
        have hput : crcm.put t = (crcm.body t, 0) := by unfold crcm.put; rw [if_neg (by omega)]
        have Hput := Lib.hid hput
        clear hsnF hF hput
        have hadd := fun W => add_mk' (P := Tryd.prog) F (crcm.body t) (by omega) W
        clear hbl
        go_wp2_with (go_at_call 14; refine (put_any _ _ hsz htr).mono ?_; rw [crcm.mk_toList, Hput.out]; rintro e w3 ⟨rfl, hb3⟩)
        go_roundw
        case rel => exact ⟨k + 1, by omega, by go_num, by rw [HsnF.out], by
            rw [Hsn.out]; intro x hx
            rcases List.mem_append.1 hx with hx | hx
            · exact h200'.out x hx
            · simp at hx; subst hx; rw [crcm.mk_size] at hshort; exact hshort, hbel.trans (hb3.mono hbel.size)⟩
        case measure => simp [intOf]; omega
    · obtain rfl : k = n := by omega
      have htake : ls.take k = ls := List.take_of_length_le (by rw [Hn.out]; exact Nat.le_refl _)
      rw [htake] at hfl h200' ⊢
      have h200 := Lib.hid (show ∀ t ∈ ls, t.length ≤ 200 from h200'.out)
      obtain ⟨S, hS⟩ : ∃ S, crcm.flat ls = S := ⟨_, rfl⟩
      rw [hS] at hfl ⊢
      have HS := Lib.hid hS
      have hSs : (crcm.mk S).size = S.length := crcm.mk_size S
      obtain ⟨m, hSm⟩ : ∃ m, S.length = m := ⟨_, rfl⟩
      rw [hSm] at hSs hfl
      have hSi : ((crcm.mk S).size : Int) = (m : Int) := by omega
      have hml : m ≤ 10000 := by rw [Hn.out] at hfl; omega
      obtain ⟨kc, hkc⟩ : ∃ kc, x % (m + 1) = kc := ⟨_, rfl⟩
      have hkcl : kc ≤ m := by have := Nat.mod_lt x (show 0 < m + 1 by omega); omega
      have hkci : (x : Int) % ((m : Int) + 1) = (kc : Int) := by rw [← hkc, Int.natCast_emod, Int.natCast_add]; rfl
      have hSz : kc ≤ (crcm.mk S).size := by omega
      have HSm := Lib.hid hSm
      clear hS hSm hkc htake h200' hfl hSs hm hkl hlt
      go_wp2_with fail
      rw [hkci]
      clear hSi hkci
      go_loop [10, 11] (fun wa en => ∃ want : Nat, want ≤ k ∧ wa = .int .i64 want ∧ en = .int .i64 ((crcm.flat (ls.take want)).length : Nat) ∧ (crcm.flat (ls.take want)).length ≤ kc) (fun wa _ => k - (intOf wa).toNat)
      case atStart => exact ⟨0, Nat.zero_le _, rfl, rfl, Nat.zero_le _⟩
      case round =>
        obtain ⟨want, hw, rfl, rfl, hend⟩ := hrel
        obtain ⟨en, hen⟩ : ∃ en, (crcm.flat (ls.take want)).length = en := ⟨_, rfl⟩
        rw [hen] at hend ⊢
        have Hen := Lib.hid hen
        clear hen
        by_cases hlt : want < k
        · obtain ⟨a1, rfl, c1⟩ := HA.out want hlt
          have c1' := cell_later hbel c1
          have hmem : ls.getD want [] ∈ ls := by
            rw [List.getD_eq_getElem?_getD, List.getElem?_eq_getElem (by rw [Hn.out]; exact hlt)]; exact List.getElem_mem _
          have ht200 := h200.out _ hmem
          have hsn : ls.take (want + 1) = ls.take want ++ [ls.getD want []] := by
            rw [List.take_add_one, List.getD_eq_getElem?_getD, List.getElem?_eq_getElem (by rw [Hn.out]; exact hlt)]; rfl
          have hstep := crcm.flat_len_snoc (ls.take want) (ls.getD want [])
          rw [← hsn, Hen.out] at hstep
          obtain ⟨t, hte⟩ : ∃ t, ls.getD want [] = t := ⟨_, rfl⟩
          rw [hte] at c1' ht200 hstep
          have Hte := Lib.hid hte
          clear hmem hte c1 hsn
          have hz : (crcm.mk t).size = t.length := crcm.mk_size t
          obtain ⟨tl, htl⟩ : ∃ tl, t.length = tl := ⟨_, rfl⟩
          rw [htl] at hz hstep ht200
          have hzi : ((crcm.mk t).size : Int) = (tl : Int) := by omega
          have Htl := Lib.hid htl
          have Hstep := Lib.hid hstep
          clear hz htl hstep
          by_cases hfit : en + 6 + tl ≤ kc
          · have hfiti : (en : Int) + 6 + (tl : Int) ≤ (kc : Int) := by omega
            go_wp2_with fail
            go_round
            case rel => exact ⟨want + 1, by omega, by go_num, by rw [Hstep.out]; exact slot_i64 (by omega), by rw [Hstep.out]; omega⟩
            case measure => simp [intOf]; omega
          · have hfiti : ¬ (en : Int) + 6 + (tl : Int) ≤ (kc : Int) := by omega
            have hall := crcm.cut_all ls (fun t ht => by have := h200.out t ht; omega) want kc (by rw [Hn.out]; omega) (by rw [Hen.out]; exact hend) (fun _ => by rw [Hen.out, Hte.out, Htl.out]; omega)
            rw [HS.out, Hen.out] at hall
            have hex : ((crcm.mk S).extract 0 kc).data.toList = S.take kc := by rw [Lib.extract_data, crcm.mk_toList]; simp
            have hexs : ((crcm.mk S).extract 0 kc).size ≤ 1000000 := by
              rw [← crcm.size_len, hex, List.length_take, HSm.out]; omega
            have Hall := Lib.hid hall
            have Hex := Lib.hid hex
            have hst0 : Strs wr (.slice (some a1) want c) (ls.take want) := by
              refine ⟨some a1, c, by rw [List.length_take, Hn.out, Nat.min_eq_left (by omega)], fun j hj => ?_⟩
              rw [List.length_take, Hn.out, Nat.min_eq_left (by omega)] at hj
              obtain ⟨ad, e1, e2⟩ := HA.out j (by omega)
              refine ⟨ad, e1, ?_⟩
              rw [cell_later hbel e2, List.getD_eq_getElem?_getD, List.getD_eq_getElem?_getD, List.getElem?_take_of_lt hj]
            have hlen : (ls.take want).length ≤ maxLen := by rw [List.length_take]; unfold maxLen; omega
            have Hlen := Lib.hid hlen
            clear hall hex hlen
            go_wp2_with fail
            refine (all_any _ _ hexs htr).mono ?_
            rw [Hex.out, Hall.out]
            rintro e w4 ⟨v, rfl, hv, hb4⟩
            have hst1 := hst0.below hb4
            clear hst0
            go_wp2_with fail
            refine (same_texts hv hst1 Hlen.out).mono ?_
            rintro e w5 ⟨rfl, q, rfl⟩
            go_wp2_with fail
            go_ret
            exact ⟨rfl, below_drewN (hbel.trans (hb4.mono hbel.size)) _⟩
        · have hwk : ¬ (want : Int) < (k : Int) := by omega
          have hall := crcm.cut_all ls (fun t ht => by have := h200.out t ht; omega) want kc (by rw [Hn.out]; omega) (by rw [Hen.out]; exact hend) (fun hlt' => by rw [Hn.out] at hlt'; exact absurd hlt' hlt)
          rw [HS.out, Hen.out] at hall
          have hex : ((crcm.mk S).extract 0 kc).data.toList = S.take kc := by rw [Lib.extract_data, crcm.mk_toList]; simp
          have hexs : ((crcm.mk S).extract 0 kc).size ≤ 1000000 := by
            rw [← crcm.size_len, hex, List.length_take, HSm.out]; omega
          have Hall := Lib.hid hall
          have Hex := Lib.hid hex
          have hst0 : Strs wr (.slice A want c) (ls.take want) := by
            refine ⟨A, c, by rw [List.length_take, Hn.out, Nat.min_eq_left (by omega)], fun j hj => ?_⟩
            rw [List.length_take, Hn.out, Nat.min_eq_left (by omega)] at hj
            obtain ⟨ad, e1, e2⟩ := HA.out j (by omega)
            refine ⟨ad, e1, ?_⟩
            rw [cell_later hbel e2, List.getD_eq_getElem?_getD, List.getD_eq_getElem?_getD, List.getElem?_take_of_lt hj]
          have hlen : (ls.take want).length ≤ maxLen := by rw [List.length_take]; unfold maxLen; omega
          have Hlen := Lib.hid hlen
          clear hall hex hlen
          go_wp2_with fail
          refine (all_any _ _ hexs htr).mono ?_
          rw [Hex.out, Hall.out]
          rintro e w4 ⟨v, rfl, hv, hb4⟩
          have hst1 := hst0.below hb4
          clear hst0
          go_wp2_with fail
          refine (same_texts hv hst1 Hlen.out).mono ?_
          rintro e w5 ⟨rfl, q, rfl⟩
          go_wp2_with fail
          go_ret
          exact ⟨rfl, below_drewN (hbel.trans (hb4.mono hbel.size)) _⟩
theorem cut_law (v : Value) (ls : List (List UInt8)) (x : Nat) (w : World) (hx : x < 65536) (hl : Texts w v ls) (ht : TabAt w) :
    Calls Tryd.prog 8 #[v, .int .u16 (x : Int)] w fun e w' => e = .returned (.bool true) ∧ Below w.heap.size w w' := by
  by_cases h : ls.length ≤ 30
  · obtain ⟨⟨A, c, rfl, hA⟩, _, h3, A', c', e, hc⟩ := hl
    obtain ⟨_, _, rfl⟩ : A = A' ∧ True ∧ c = c' := by injection e with e1 e2 e3; exact ⟨e1, trivial, e3⟩
    exact cut_few A c x ls w hx hA h3 hc h ht
  · exact cut_many v ls x w hl (by omega) ht
end Go.Proofs.YtckgnckhmkgeeaaDoor
