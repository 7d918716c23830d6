/- BloomOrder walked: whatever comes in, it returns true. -/
import Derived.Test.YtckchihdeimgpaaDoorBloomHasLaw
namespace Go.Proofs.YtckchihdeimgpaaDoor
open Go Go.RowKit

theorem info_string : (Tryd.prog.info? 9).map (fun i => (i.zero, i.size, i.bytes)) = some (some (.string .empty), 1, 16) := by kernel_rfl
def strV (l : List UInt8) : Value := .string (crcm.mk l)
theorem strV_one (l : List UInt8) : ∀ u ∈ [strV l], u.oneCell' = true := by intro u hu; simp at hu; subst hu; rfl
theorem strV_all (ls : List (List UInt8)) : ∀ u ∈ ls.map strV, u.oneCell' = true := by intro u hu; obtain ⟨l, _, rfl⟩ := List.mem_map.1 hu; rfl
theorem Texts.vals {w : World} {v : Value} {ls : List (List UInt8)} (h : Texts w v ls) : Vals w v (ls.map strV) := by
  obtain ⟨⟨A, c, rfl, hA⟩, _, _, A', c', e, hc⟩ := h
  obtain ⟨rfl, rfl⟩ : A = A' ∧ c = c' := by injection e with e1 e2 e3; exact ⟨e1, e3⟩
  refine ⟨A, c, by rw [List.length_map], by rw [List.length_map]; exact hc, fun k u hk => ?_⟩
  rw [List.getElem?_map] at hk
  obtain ⟨l, hl, rfl⟩ := Option.map_eq_some_iff.1 hk
  obtain ⟨hlt, he⟩ := List.getElem?_eq_some_iff.1 hl
  obtain ⟨ad, e1, h1⟩ := hA k hlt
  refine ⟨ad, e1, ?_⟩
  rw [h1, List.getD_eq_getElem?_getD, hl]
  rfl
theorem Vals.texts {w : World} {v : Value} {ls : List (List UInt8)} (h : Vals w v (ls.map strV)) (hl : ls.length ≤ maxLen) (hm : ∀ t ∈ ls, t.length ≤ maxLen) : Texts w v ls := by
  obtain ⟨A, c, rfl, hc, hA⟩ := h
  rw [List.length_map] at hc ⊢
  refine ⟨⟨A, c, rfl, fun k hk => ?_⟩, hl, hm, A, c, rfl, hc⟩
  apply hA
  rw [List.getElem?_map, List.getElem?_eq_getElem hk, List.getD_eq_getElem?_getD, List.getElem?_eq_getElem hk]
  rfl
theorem Vals.some {w : World} {v : Value} {xs : List Value} (h : Vals w v xs) (h0 : 0 < xs.length) : ∃ ad c, v = .slice (some ad) xs.length c ∧ ∀ j u, xs[j]? = some u → w.cell? (ad.add j) = some u := by
  obtain ⟨A, c, rfl, hc, hA⟩ := h
  obtain ⟨ad, rfl, _⟩ := hA 0 xs[0] (List.getElem?_eq_getElem h0)
  refine ⟨ad, c, rfl, fun j u hj => ?_⟩
  obtain ⟨ad', e, h'⟩ := hA j u hj
  obtain rfl : ad = ad' := by injection e
  exact h'
theorem rev_take (names : List (List UInt8)) (k : Nat) (hk : k < names.length) : names.reverse.take (k + 1) = names.reverse.take k ++ [names.getD (names.length - 1 - k) []] := by
  rw [List.take_add_one, List.getElem?_reverse hk, List.getD_eq_getElem?_getD, List.getElem?_eq_getElem (by omega)]
  rfl
theorem make_eq (names : List (List UInt8)) (each : Nat) (h : 1 ≤ each) (h2 : each ≤ 64) (hn : names.length ≤ 2000) : blm.make names (each : Int) = (blm.filt (blm.fsize names.length each) names, 0) := by
  unfold blm.make; rw [if_neg (by omega), if_neg (by omega)]; rfl

theorem border_out (v : Value) (names : List (List UInt8)) (b : Nat) (w : World) (hv : Texts w v names) (hok : okNames names = false) (ht : TabAt w) :
    Calls Tryd.prog 6 #[v, .int .u8 (b : Int)] w fun e w' => e = .returned (.bool true) ∧ Below w.heap.size w w' := by
  have hbo := bounded_any v names w hv
  rw [show (decide (names.length ≤ 100) && names.all fun t => decide (t.length ≤ 200)) = false from hok] at hbo
  have HBO := Lib.hid hbo
  clear hbo
  go_enter Tryd.func6, Tryd.ntmps6
  go_wp2_with fail
  refine HBO.out.mono ?_
  rintro e w0 ⟨rfl, rfl⟩
  go_wp2_with (go_at_call 10; refine (shown_any _ ht).mono ?_; rintro e w1 ⟨rfl, hb1⟩)
  go_ret
  exact ⟨rfl, hb1⟩
theorem border_none (v : Value) (b : Nat) (w : World) (hv : Texts w v []) (ht : TabAt w) :
    Calls Tryd.prog 6 #[v, .int .u8 (b : Int)] w fun e w' => e = .returned (.bool true) ∧ Below w.heap.size w w' := by
  have hbo := bounded_any v [] w hv
  rw [show (decide (([] : List (List UInt8)).length ≤ 100) && ([] : List (List UInt8)).all fun t => decide (t.length ≤ 200)) = true from rfl] at hbo
  have HBO := Lib.hid hbo
  obtain ⟨⟨A, c, rfl, _⟩, _⟩ := hv
  rw [show ([] : List (List UInt8)).length = 0 from rfl] at HBO ⊢
  clear hbo
  go_enter Tryd.func6, Tryd.ntmps6
  go_wp2_with fail
  refine HBO.out.mono ?_
  rintro e w0 ⟨rfl, rfl⟩
  go_wp2_with (go_at_call 10; refine (shown_any _ ht).mono ?_; rintro e w1 ⟨rfl, hb1⟩)
  go_ret
  exact ⟨rfl, hb1⟩

set_option maxHeartbeats 4000000 in
theorem border_in (v : Value) (names : List (List UInt8)) (b : Nat) (w : World) (hv : Texts w v names) (hok : okNames names = true) (h0 : 0 < names.length) (hb : b ≤ 255) (ht : TabAt w) :
    Calls Tryd.prog 6 #[v, .int .u8 (b : Int)] w fun e w' => e = .returned (.bool true) ∧ Below w.heap.size w w' := by
  obtain ⟨i0, hi, hz0, hz1, hz2⟩ := info_parts info_string
  have hbo := bounded_any v names w hv
  rw [show (decide (names.length ≤ 100) && names.all fun t => decide (t.length ≤ 200)) = true from hok] at hbo
  have HBO := Lib.hid hbo
  obtain ⟨hnl, hns⟩ := okNames_in hok
  obtain ⟨each, hea⟩ : ∃ each, 1 + b % 64 = each := ⟨_, rfl⟩
  have hei : 1 + (b : Int) % 64 = (each : Int) := by omega
  have hin : ∀ t ∈ names, t.length ≤ 1000000 := fun t h => Nat.le_trans (hns t h) (by decide)
  have hinr : ∀ t ∈ names.reverse, t.length ≤ 1000000 := fun t h => hin t (List.mem_reverse.1 h)
  have hin2 : ∀ t ∈ names ++ names, t.length ≤ 1000000 := fun t h => hin t (by simpa using h)
  have hin3 : ∀ t ∈ names.reverse ++ names, t.length ≤ 1000000 := fun t h => hin t (by simpa using h)
  have hmx : (1000000 : Nat) ≤ maxLen := by decide
  have hm1 := make_eq names each (by omega) (by omega) (by omega)
  have hm2 := make_eq names.reverse each (by omega) (by omega) (by rw [List.length_reverse]; omega)
  have hm3 := make_eq (names ++ names) each (by omega) (by omega) (by rw [List.length_append]; omega)
  have hm4 := make_eq (names.reverse ++ names) each (by omega) (by omega) (by rw [List.length_append, List.length_reverse]; omega)
  have e12 : blm.filt (blm.fsize names.reverse.length each) names.reverse = blm.filt (blm.fsize names.length each) names := by
    rw [List.length_reverse]; exact blm.filt_ext _ (blm.fsize_pos _ _) (by simp)
  have e34 : blm.filt (blm.fsize (names.reverse ++ names).length each) (names.reverse ++ names) = blm.filt (blm.fsize (names ++ names).length each) (names ++ names) := by
    rw [List.length_append, List.length_append, List.length_reverse]; exact blm.filt_ext _ (blm.fsize_pos _ _) (by simp)
  rw [e12] at hm2
  rw [e34] at hm4
  obtain ⟨F1, hF1⟩ : ∃ F, blm.filt (blm.fsize names.length each) names = F := ⟨_, rfl⟩
  obtain ⟨F2, hF2⟩ : ∃ F, blm.filt (blm.fsize (names ++ names).length each) (names ++ names) = F := ⟨_, rfl⟩
  rw [hF1] at hm1 hm2
  rw [hF2] at hm3 hm4
  clear hF1 hF2
  obtain ⟨xr, hxr⟩ : ∃ xr, names.reverse.map strV = xr := ⟨_, rfl⟩
  have HXR := Lib.hid hxr
  clear hxr
  have hlr : names.reverse.length = names.length := List.length_reverse
  have hrt := rev_take names
  have hvals := hv.vals
  obtain ⟨ad, c, hveq, hcells⟩ := hvals.some (by rw [List.length_map]; exact h0)
  rw [List.length_map] at hveq
  subst hveq
  have hrfull : names.reverse.take names.length = names.reverse := List.take_of_length_le (by rw [hlr]; exact Nat.le_refl _)
  have hcell1 : ∀ k, k < names.length → w.cell? (ad.add k) = some (strV (names.getD k [])) := fun k hk => hcells k _ (by
    rw [List.getElem?_map, List.getElem?_eq_getElem hk, List.getD_eq_getElem?_getD, List.getElem?_eq_getElem hk]; rfl)
  have hlm : (names.map strV).length = names.length := List.length_map _
  have HLM := Lib.hid hlm
  have HC1 := Lib.hid hcell1
  have HCS := Lib.hid hcells
  obtain ⟨l, hl⟩ : ∃ l, names.length = l := ⟨_, rfl⟩
  rw [hl] at HBO hnl hlr hrt hrfull h0 hv HC1 HLM ⊢
  have HIN := Lib.hid hin
  have HINR := Lib.hid hinr
  have HIN2 := Lib.hid hin2
  have HIN3 := Lib.hid hin3
  have HM1 := Lib.hid hm1
  have HM2 := Lib.hid hm2
  have HM3 := Lib.hid hm3
  have HM4 := Lib.hid hm4
  have HRT := Lib.hid hrt
  have HRF := Lib.hid hrfull
  have Hl := Lib.hid hl
  have Hlr := Lib.hid hlr
  clear hbo hin hinr hin2 hin3 hm1 hm2 hm3 hm4 hrt hrfull hl hlr hea hcells hvals hok hns e12 e34 hcell1 hlm
  have hl0 : ((l : Int) == 0) = false := by rw [beq_eq_false_iff_ne]; omega
  go_enter Tryd.func6, Tryd.ntmps6
  go_wp2_with fail
  refine HBO.out.mono ?_
  rintro e w0 ⟨rfl, rfl⟩
  go_wp2_with fail
  refine (shown_any _ ht).mono ?_
  rintro e w1 ⟨rfl, hb1⟩
  have ht1 := ht.below hb1 ht.1
  have hv1 := hv.below hb1
  have HB1 := Lib.hid hb1
  clear hb1
  go_wp2_with fail
  go_loopw [5, 6] (fun v i wr => ∃ (k : Nat) (z : Int) (xs : List Value), k ≤ l ∧ i = .int .i64 z ∧ z = (l : Int) - 1 - (k : Int) ∧ xs = (names.reverse.take k).map strV ∧ wr.ownsRow w1.heap.size 9 1 v k xs ∧ Below w1.heap.size w1 wr) (fun _ i _ => (intOf i + 1).toNat)
  case atStart => exact ⟨0, _, [], Nat.zero_le _, rfl, by omega, rfl, World.ownsRow_lit w1 #[] 0 (Nat.le_refl _) (Nat.zero_le _) rfl, (Below.refl _ _).alloc (Nat.le_refl _) _⟩
  case round =>
    obtain ⟨k, z, xs, hk, rfl, hz, hxs, hown, hbel⟩ := hrel
    have HX := Lib.hid hxs
    clear hxs
    have hb1r : Below w.heap.size w wr := HB1.out.trans (hbel.mono HB1.out.size)
    by_cases hlt : k < l
    · obtain ⟨i, hi2⟩ : ∃ i, l - 1 - k = i := ⟨_, rfl⟩
      obtain rfl : z = (i : Int) := by omega
      clear hz
      have hc := cell_later hb1r (HC1.out i (by omega))
      obtain ⟨t, hte⟩ : ∃ t, names.getD i [] = t := ⟨_, rfl⟩
      have hnext : xs ++ [strV t] = (names.reverse.take (k + 1)).map strV := by
        rw [HX.out, HRT.out k hlt, hi2, hte, List.map_append]; rfl
      rw [hte] at hc
      unfold strV at hc
      have hil : (i : Int) < (l : Int) := by omega
      have HN := Lib.hid hnext
      have HI := Lib.hid hi2
      clear hnext hte hi2
      go_wp2_with (at_builtin; refine wpList_append_own _ rfl _ _ 22 rfl w1.heap.size 9 i0 (.string .empty) 1 16 Tryd.underlying22 hi hz0 hz1 hz2 rfl (by decide) _ _ _ rfl (hown.alloc _) ⟨wr.heap.size, 0, none⟩ 1 1 [strV t] rfl rfl ?c1 ?c2 ?c3 ?c4 ?c5 ?_)
      case c1 => exact cell_new1 _ _ _
      case c2 => exact strV_one _
      case c3 => unfold maxLen; omega
      case c4 => omega
      case c5 => have := hbel.size; simp; omega
      intro v' w3 hown' hgrow _
      go_wp2
      have hrow : ∀ j, u5.ownBlock = some j → w1.heap.size ≤ j := fun j hj => (hown.lt j hj).1
      have hb3 : Below w1.heap.size w1 w3 := (hbel.alloc hbel.size _).grown hgrow (by have := hbel.size; simp; omega) hrow
      go_roundw
      case rel => exact ⟨k + 1, (i : Int) - 1, _, by omega, rfl, by have := HI.out; omega, HN.out, hown', hb3⟩
      case measure => simp [intOf]
    · obtain rfl : k = l := by omega
      obtain rfl : z = -1 := by omega
      clear hz hbel
      have hxf := HX.out
      rw [HRF.out] at hxf
      subst hxf
      have hvb : Texts wr u5 names.reverse := (vals_of_owns hown).texts (by rw [Hlr.out]; omega) (fun t h => Nat.le_trans (HINR.out t h) hmx)
      have hvr := hv.below hb1r
      obtain ⟨ad2, c2, hu5, hcb⟩ := hvb.vals.some (by rw [List.length_map, Hlr.out]; exact h0)
      rw [List.length_map, Hlr.out] at hu5
      subst hu5
      rw [HXR.out] at hcb
      have HCB := Lib.hid hcb
      have HLR := Lib.hid (show xr.length = k by rw [← HXR.out, List.length_map]; exact Hlr.out)
      clear hcb
      have htr := ht.below hb1r ht.1
      have HBR := Lib.hid hb1r
      clear hb1r hown hv hv1 ht1
      go_wp2_with fail
      refine (make_any _ names (each : Int) wr hvr HIN.out htr).mono ?_
      unfold MakePost
      rw [HM1.out]
      rintro e w2 ⟨rfl, hb2⟩
      have hv2 := hvr.below hb2
      have hvb2 := hvb.below hb2
      have ht2 := htr.below hb2 htr.1
      have HB2 := Lib.hid (HBR.out.trans (hb2.mono HBR.out.size))
      go_wp2_with fail
      refine (make_any _ names.reverse (each : Int) w2 hvb2 HINR.out ht2).mono ?_
      unfold MakePost
      rw [HM2.out]
      rintro e w3 ⟨rfl, hb3⟩
      have hv3 := hv2.below hb3
      have hvb3 := hvb2.below hb3
      have ht3 := ht2.below hb3 ht2.1
      have HB3 := Lib.hid (HB2.out.trans (hb3.mono HB2.out.size))
      have HBW := Lib.hid (hb2.trans (hb3.mono hb2.size))
      clear hb3 hb2 hv2 hvb2 ht2 hvr hvb htr
      have hcells3 : ∀ j u, (names.map strV)[j]? = some u → (w3.alloc (.cells #[] 9)).cell? (ad.add j) = some u := fun j u hj => cell_later ((Below.refl _ w3).alloc (Nat.le_refl _) _) (cell_later HB3.out (HCS.out j u hj))
      have HC3 := Lib.hid hcells3
      clear hcells3
      go_wp2_with (at_builtin; refine wpList_append_own _ rfl _ _ 22 rfl w3.heap.size 9 i0 (.string .empty) 1 16 Tryd.underlying22 hi hz0 hz1 hz2 rfl (by decide) _ 0 [] rfl (World.ownsRow_lit w3 #[] 0 (Nat.le_refl _) (Nat.zero_le _) rfl) ad k c (names.map strV) rfl ?c1 HC3.out ?c2 ?c3 ?c4 ?c5 ?_)
      case c1 => rw [HLM.out, Nat.mul_one]
      case c2 => exact strV_all _
      case c3 => unfold maxLen; omega
      case c4 => omega
      case c5 => simp
      intro v4 w4 hown4 hgrow4 _
      have hb34 : Below w3.heap.size w3 w4 := ((Below.refl _ w3).alloc (Nat.le_refl _) _).grown hgrow4 (by simp) (fun j e => by cases e; exact Nat.le_refl _)
      have hcells4 : ∀ j u, (names.map strV)[j]? = some u → w4.cell? (ad.add j) = some u := fun j u hj => cell_later hb34 (cell_later HB3.out (HCS.out j u hj))
      have HC4 := Lib.hid hcells4
      have HB34 := Lib.hid hb34
      clear hcells4 hgrow4 hb34
      go_wp2_with (at_builtin; refine wpList_append_own _ rfl _ _ 22 rfl w3.heap.size 9 i0 (.string .empty) 1 16 Tryd.underlying22 hi hz0 hz1 hz2 rfl (by decide) _ k (names.map strV) rfl hown4 ad k c (names.map strV) rfl ?c1 HC4.out ?c2 ?c3 ?c4 ?c5 ?_)
      case c1 => rw [HLM.out, Nat.mul_one]
      case c2 => exact strV_all _
      case c3 => unfold maxLen; omega
      case c4 => omega
      case c5 => exact HB34.out.size
      intro v5 w5 hown5 hgrow5 _
      rw [← List.map_append] at hown5
      have hb35 : Below w3.heap.size w3 w5 := HB34.out.grown hgrow5 HB34.out.size (fun j hj => (hown4.lt j hj).1)
      have hv5 : Texts w5 v5 (names ++ names) := (vals_of_owns hown5).texts (by rw [List.length_append, Hl.out]; omega) (fun t h => Nat.le_trans (HIN2.out t h) hmx)
      have ht5 := ht3.below hb35 ht3.1
      have HB35 := Lib.hid hb35
      clear hown4 hown5 hgrow5 hb35
      go_wp2_with fail
      refine (make_any _ (names ++ names) (each : Int) w5 hv5 HIN2.out ht5).mono ?_
      unfold MakePost
      rw [HM3.out]
      rintro e w6 ⟨rfl, hb6⟩
      have ht6 := ht5.below hb6 ht5.1
      have HB36 := Lib.hid (HB35.out.trans (hb6.mono HB35.out.size))
      clear hb6 hv5 ht5
      have hbr6 : Below wr.heap.size wr w6 := HBW.out.trans (HB36.out.mono HBW.out.size)
      have HBR6 := Lib.hid hbr6
      have HB6 := Lib.hid (HB3.out.trans (HB36.out.mono HB3.out.size))
      have hcells6 : ∀ j u, xr[j]? = some u → (w6.alloc (.cells #[] 9)).cell? (ad2.add j) = some u := fun j u hj => cell_later ((Below.refl _ w6).alloc (Nat.le_refl _) _) (cell_later hbr6 (HCB.out j u hj))
      have HC6 := Lib.hid hcells6
      clear hcells6 hbr6
      go_wp2_with (at_builtin; refine wpList_append_own _ rfl _ _ 22 rfl w6.heap.size 9 i0 (.string .empty) 1 16 Tryd.underlying22 hi hz0 hz1 hz2 rfl (by decide) _ 0 [] rfl (World.ownsRow_lit w6 #[] 0 (Nat.le_refl _) (Nat.zero_le _) rfl) ad2 k c2 xr rfl ?c1 HC6.out ?c2 ?c3 ?c4 ?c5 ?_)
      case c1 => rw [HLR.out, Nat.mul_one]
      case c2 => rw [← HXR.out]; exact strV_all _
      case c3 => unfold maxLen; omega
      case c4 => omega
      case c5 => simp
      intro v7 w7 hown7 hgrow7 _
      have hb67 : Below w6.heap.size w6 w7 := ((Below.refl _ w6).alloc (Nat.le_refl _) _).grown hgrow7 (by simp) (fun j e => by cases e; exact Nat.le_refl _)
      have hcells7 : ∀ j u, (names.map strV)[j]? = some u → w7.cell? (ad.add j) = some u := fun j u hj => cell_later hb67 (cell_later HB6.out (HCS.out j u hj))
      have HC7 := Lib.hid hcells7
      have HB67 := Lib.hid hb67
      clear hcells7 hgrow7 hb67
      go_wp2_with (at_builtin; refine wpList_append_own _ rfl _ _ 22 rfl w6.heap.size 9 i0 (.string .empty) 1 16 Tryd.underlying22 hi hz0 hz1 hz2 rfl (by decide) _ k xr rfl ?c0 ad k c (names.map strV) rfl ?c1 HC7.out ?c2 ?c3 ?c4 ?c5 ?_)
      case c0 => exact hown7
      case c1 => rw [HLM.out, Nat.mul_one]
      case c2 => exact strV_all _
      case c3 => unfold maxLen; omega
      case c4 => omega
      case c5 => exact HB67.out.size
      intro v8 w8 hown8 hgrow8 _
      rw [← HXR.out, ← List.map_append] at hown8
      have hb68 : Below w6.heap.size w6 w8 := HB67.out.grown hgrow8 HB67.out.size (fun j hj => (hown7.lt j hj).1)
      have hv8 : Texts w8 v8 (names.reverse ++ names) := (vals_of_owns hown8).texts (by rw [List.length_append, Hlr.out, Hl.out]; omega) (fun t h => Nat.le_trans (HIN3.out t h) hmx)
      have ht8 := ht6.below hb68 ht6.1
      have HB68 := Lib.hid hb68
      clear hown7 hown8 hgrow8 hb68
      go_wp2_with fail
      refine (make_any _ (names.reverse ++ names) (each : Int) w8 hv8 HIN3.out ht8).mono ?_
      unfold MakePost
      rw [HM4.out]
      rintro e w9 ⟨rfl, hb9⟩
      have HB69 := Lib.hid (HB68.out.trans (hb9.mono HB68.out.size))
      clear hb9
      go_wp2_with fail
      go_ret
      exact ⟨rfl, HB6.out.trans (HB69.out.mono HB6.out.size)⟩
theorem border_law (v : Value) (names : List (List UInt8)) (b : Nat) (w : World) (hv : Texts w v names) (hb : b ≤ 255) (ht : TabAt w) :
    Calls Tryd.prog 6 #[v, .int .u8 (b : Int)] w fun e w' => e = .returned (.bool true) ∧ Below w.heap.size w w' := by
  cases hok : okNames names with
  | false => exact border_out v names b w hv hok ht
  | true =>
    by_cases h0 : 0 < names.length
    · exact border_in v names b w hv hok h0 hb ht
    · have : names = [] := List.eq_nil_of_length_eq_zero (by omega)
      subst this
      exact border_none v b w hv ht
end Go.Proofs.YtckchihdeimgpaaDoor
