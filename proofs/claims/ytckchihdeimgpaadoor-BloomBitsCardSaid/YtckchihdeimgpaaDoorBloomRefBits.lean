/- The places of a name by the document, walked; two lists of numbers compared. -/
import Derived.Test.YtckchihdeimgpaaDoorBloomBitsW
import Derived.BigQuiet
import Derived.Deep.QuietTactic
namespace Go.Proofs.YtckchihdeimgpaaDoor
open Go Go.RowKit

theorem rbits_none (s : ByteArray) (m : Int) (w : World) (hs : s.size ≤ 1000000) (h : m < 1) :
    Calls Tryd.prog 17 #[.string s, .int .i64 m] w fun e w' => ∃ v, e = .returned v ∧ Vals w' v [] ∧ Below w.heap.size w w' := by
  have hs1 : s.size ≤ maxLen := by unfold maxLen; omega
  have hs2 : (s ++ ByteArray.mk #[1]).size ≤ maxLen := by
    rw [ByteArray.size_append]; unfold maxLen; have : (ByteArray.mk #[1]).size = 1 := rfl; omega
  have z2 : (ByteArray.mk #[1]).size ≤ 100 := by decide
  have h' : ¬ 0 < m := by omega
  go_enter Tryd.func17, Tryd.ntmps17
  go_wp2_with fail
  refine (rsum_any s _ hs1).mono ?_
  rintro e w1 ⟨rfl, rfl⟩
  go_wp2_with fail
  refine (rsum_any _ _ hs2).mono ?_
  rintro e w2 ⟨rfl, rfl⟩
  go_wp2_with fail
  refine wp_loop_rounds 1 ?_
  rw [rounds_succ]
  go_wp2
  go_ret
  exact ⟨_, rfl, vals_of_owns (World.ownsRow_lit w #[] 0 (Nat.le_refl _) (Nat.zero_le _) rfl), (Below.refl _ _).alloc (Nat.le_refl _) _⟩

set_option maxHeartbeats 2000000 in
theorem rbits_some (s : ByteArray) (m : Nat) (w : World) (hs : s.size ≤ 1000000) (hm : 1 ≤ m) (hm2 : m ≤ 1000000) :
    Calls Tryd.prog 17 #[.string s, .int .i64 (m : Int)] w fun e w' => ∃ v, e = .returned v ∧ Vals w' v ((blm.places s.data.toList m).map numV) ∧ Below w.heap.size w w' := by
  obtain ⟨i0, hi, hz0, hz1, hz2⟩ := info_parts info_int
  have hs1 : s.size ≤ maxLen := by unfold maxLen; omega
  have hcat : (s ++ ByteArray.mk #[1]).data.toList = s.data.toList ++ [1] := by rw [ByteArray.data_append, Array.toList_append]
  have hs2 : (s ++ ByteArray.mk #[1]).size ≤ maxLen := by
    rw [← crcm.size_len, hcat, List.length_append, crcm.size_len]; unfold maxLen; simp; omega
  have z2 : (ByteArray.mk #[1]).size ≤ 100 := by decide
  have Hcat := Lib.hid hcat
  have ha4 := sum_lt2 s.data.toList
  have hb4 := sum_lt2 (s.data.toList ++ [1])
  have hpl : ∀ k, blm.place s.data.toList m k = (crcm.sum s.data.toList + k * crcm.sum (s.data.toList ++ [1])) % 4294967296 % m := fun k => rfl
  have hps : blm.places s.data.toList m = [blm.place s.data.toList m 0, blm.place s.data.toList m 1, blm.place s.data.toList m 2, blm.place s.data.toList m 3] := rfl
  obtain ⟨a, hae⟩ : ∃ a, crcm.sum s.data.toList = a := ⟨_, rfl⟩
  obtain ⟨b, hbe⟩ : ∃ b, crcm.sum (s.data.toList ++ [1]) = b := ⟨_, rfl⟩
  rw [hae] at ha4 hpl
  rw [hbe] at hb4 hpl
  have Hae := Lib.hid hae
  have Hbe := Lib.hid hbe
  have Hpl := Lib.hid hpl
  have Hps := Lib.hid hps
  clear hae hbe hpl hps hcat
  go_enter Tryd.func17, Tryd.ntmps17
  go_wp2_with fail
  refine (rsum_any s _ hs1).mono ?_
  rw [Hae.out]
  rintro e w1 ⟨rfl, rfl⟩
  go_wp2_with fail
  refine (rsum_any _ _ hs2).mono ?_
  rw [Hcat.out, Hbe.out]
  rintro e w2 ⟨rfl, rfl⟩
  have hm0 : (0 : Int) < (m : Int) := by omega
  go_wp2_with fail
  go_loopw [5, 8] (fun v i wr => ∃ (k : Nat) (xs : List Value), k ≤ 4 ∧ i = .int .u64 k ∧ xs = ((blm.places s.data.toList m).take k).map numV ∧ wr.ownsRow w.heap.size 3 1 v k xs ∧ Below w.heap.size w wr) (fun _ i _ => 4 - (intOf i).toNat)
  case atStart => exact ⟨0, [], Nat.zero_le _, rfl, rfl, World.ownsRow_lit w #[] 0 (Nat.le_refl _) (Nat.zero_le _) rfl, (Below.refl _ _).alloc (Nat.le_refl _) _⟩
  case round =>
    obtain ⟨k, xs, hk, rfl, hxs, hown, hbel⟩ := hrel
    have HX := Lib.hid hxs
    clear hxs
    by_cases hlt : k < 4
    · have hkb := kb_le k b hlt hb4
      have hmod := place_mod a b k m
      rw [← Hpl.out k] at hmod
      have hpp : blm.place s.data.toList m k < m := blm.place_lt (by omega)
      obtain ⟨p, hp⟩ : ∃ p, k * b = p := ⟨_, rfl⟩
      have hpi : (k : Int) * (b : Int) = (p : Int) := by rw [← hp]; exact (Int.natCast_mul k b).symm
      rw [hpi] at hmod
      rw [hp] at hkb
      obtain ⟨r, hr⟩ : ∃ r, blm.place s.data.toList m k = r := ⟨_, rfl⟩
      rw [hr] at hmod hpp
      have hnext : xs ++ [numV r] = ((blm.places s.data.toList m).take (k + 1)).map numV := by
        rw [HX.out, Hps.out, ← hr]
        match k, hlt with
        | 0, _ => rfl
        | 1, _ => rfl
        | 2, _ => rfl
        | 3, _ => rfl
      have HN := Lib.hid hnext
      clear hnext hp hr
      go_wp2_with (at_builtin; refine wpList_append_own _ rfl _ _ 31 rfl w.heap.size 3 i0 (.int .i64 0) 1 8 Tryd.underlying31 hi hz0 hz1 hz2 rfl (by decide) _ _ _ rfl (hown.alloc _) ⟨wr.heap.size, 0, none⟩ 1 1 [numV r] rfl rfl ?c1 ?c2 ?c3 ?c4 ?c5 ?_)
      case c1 => exact cell_new1 _ _ _
      case c2 => exact numV_one _
      case c3 => unfold maxLen; omega
      case c4 => omega
      case c5 => have := hbel.size; simp; omega
      intro v' w3 hown' hgrow _
      go_wp2
      have hrow : ∀ j, u5.ownBlock = some j → w.heap.size ≤ j := fun j hj => (hown.lt j hj).1
      have hb3 : Below w.heap.size w w3 := (hbel.alloc hbel.size _).grown hgrow (by have := hbel.size; simp; omega) hrow
      go_roundw
      case rel => exact ⟨k + 1, xs ++ [numV r], by omega, by go_num, HN.out, hown', hb3⟩
      case measure => simp [intOf]; omega
    · obtain rfl : k = 4 := by omega
      go_wp2
      go_ret
      have : (blm.places s.data.toList m).take 4 = blm.places s.data.toList m := by rw [Hps.out]; rfl
      exact ⟨_, rfl, by rw [← this, ← HX.out]; exact vals_of_owns hown, hbel⟩

theorem sameints_len (la lb : List Nat) (A B : Option Addr) (c d : Nat) (w : World) (hne : la.length ≠ lb.length) :
    Calls Tryd.prog 15 #[.slice A la.length c, .slice B lb.length d] w fun e w' => e = .returned (.bool (decide (la = lb))) ∧ ∃ q, w.drewN q = w' := by
  have hd : decide (la = lb) = false := by rw [decide_eq_false_iff_not]; intro e; exact hne (by rw [e])
  rw [hd]
  clear hd
  have hne' : ((la.length : Int) != (lb.length : Int)) = true := by rw [bne_iff_ne]; omega
  go_enter Tryd.func15, Tryd.ntmps15
  go_wp2
  go_ret
  exact ⟨rfl, 0, rfl⟩

set_option maxHeartbeats 1000000 in
theorem sameints_eq (la lb : List Nat) (A B : Option Addr) (c d n : Nat) (w : World) (hn : n ≤ maxLen) (h1 : la.length = n) (h2 : lb.length = n)
    (hA : ∀ k, k < n → ∃ ad, A = some ad ∧ w.cell? (ad.add k) = some (numV (la.getD k 0))) (hB : ∀ k, k < n → ∃ ad, B = some ad ∧ w.cell? (ad.add k) = some (numV (lb.getD k 0))) :
    Calls Tryd.prog 15 #[.slice A n c, .slice B n d] w fun e w' => e = .returned (.bool (decide (la = lb))) ∧ ∃ q, w.drewN q = w' := by
  unfold maxLen at hn
  unfold numV at hA hB
  have H1 := Lib.hid h1
  have H2 := Lib.hid h2
  clear h1 h2
  have hne' : ((n : Int) != (n : Int)) = false := by simp
  go_enter Tryd.func15, Tryd.ntmps15
  go_wp2
  go_loopw [5] (fun i wr => ∃ k q : Nat, k ≤ n ∧ i = .int .i64 k ∧ w.drewN q = wr ∧ la.take k = lb.take k) (fun i _ => n - (intOf i).toNat)
  case atStart => exact ⟨0, 0, Nat.zero_le _, rfl, rfl, rfl⟩
  case round =>
    obtain ⟨k, q, hk, rfl, rfl, hle⟩ := hrel
    have HL := Lib.hid hle
    clear hle
    by_cases hlt : k < n
    · obtain ⟨a1, rfl, c1⟩ := hA k hlt
      obtain ⟨b1, rfl, c2⟩ := hB k hlt
      clear hA hB
      have ka : la[k]? = some (la.getD k 0) := by rw [List.getD_eq_getElem?_getD, List.getElem?_eq_getElem (by rw [H1.out]; exact hlt)]; rfl
      have kb : lb[k]? = some (lb.getD k 0) := by rw [List.getD_eq_getElem?_getD, List.getElem?_eq_getElem (by rw [H2.out]; exact hlt)]; rfl
      have hta : la.take (k + 1) = la.take k ++ [la.getD k 0] := by rw [List.take_add_one, ka]; rfl
      have htb : lb.take (k + 1) = lb.take k ++ [lb.getD k 0] := by rw [List.take_add_one, kb]; rfl
      obtain ⟨x, hx⟩ : ∃ x, la.getD k 0 = x := ⟨_, rfl⟩
      obtain ⟨y, hy⟩ : ∃ x, lb.getD k 0 = x := ⟨_, rfl⟩
      rw [hx] at hta ka c1
      rw [hy] at htb kb c2
      have HTA := Lib.hid hta
      have HTB := Lib.hid htb
      have HKA := Lib.hid ka
      have HKB := Lib.hid kb
      clear hta htb ka kb hx hy
      have hi : (k : Int) < (n : Int) := by omega
      by_cases hxy : x = y
      · subst hxy
        have hb : ((x : Int) != (x : Int)) = false := by simp
        go_wp2
        go_quiet (fail)
        go_wp2
        go_roundw
        case rel => exact ⟨k + 1, _, by omega, by go_num, rfl, by rw [HTA.out, HTB.out, HL.out]⟩
        case measure => simp [intOf]; omega
      · have hb : ((x : Int) != (y : Int)) = true := by rw [bne_iff_ne]; omega
        have hd : decide (la = lb) = false := by
          rw [decide_eq_false_iff_not]; intro e; have := HKA.out; rw [e, HKB.out] at this; exact hxy (Option.some.inj this).symm
        have HD := Lib.hid hd
        clear hd
        go_wp2
        go_quiet (fail)
        go_wp2
        go_ret
        exact ⟨by rw [HD.out]; rfl, _, by first | rfl | exact (World.drewN_drewN _ _ _).symm⟩
    · clear hA hB
      have hd : decide (la = lb) = true := by
        rw [decide_eq_true_iff]
        have := HL.out
        rwa [List.take_of_length_le (by rw [H1.out]; omega), List.take_of_length_le (by rw [H2.out]; omega)] at this
      have HD := Lib.hid hd
      clear hd
      go_wp2
      go_ret
      exact ⟨by rw [HD.out]; rfl, _, by first | rfl | exact (World.drewN_drewN _ _ _).symm⟩

theorem nums_cells {w : World} {A : Option Addr} {ls : List Nat} (h : ∀ k u, (ls.map numV)[k]? = some u → ∃ ad, A = some ad ∧ w.cell? (ad.add k) = some u) : ∀ k, k < ls.length → ∃ ad, A = some ad ∧ w.cell? (ad.add k) = some (numV (ls.getD k 0)) := fun k hk => by
  apply h
  rw [List.getElem?_map, List.getElem?_eq_getElem hk, List.getD_eq_getElem?_getD, List.getElem?_eq_getElem hk]
  rfl
theorem same_ints {w : World} {a b : Value} {la lb : List Nat} (ha : Vals w a (la.map numV)) (hb : Vals w b (lb.map numV)) (hl : la.length ≤ maxLen) :
    Calls Tryd.prog 15 #[a, b] w fun e w' => e = .returned (.bool (decide (la = lb))) ∧ ∃ q, w.drewN q = w' := by
  obtain ⟨A, c, rfl, _, hA⟩ := ha
  obtain ⟨B, d, rfl, _, hB⟩ := hb
  have hA' := nums_cells hA
  have hB' := nums_cells hB
  rw [List.length_map, List.length_map]
  by_cases h : la.length = lb.length
  · rw [← h] at hB' ⊢
    exact sameints_eq la lb A B c d la.length w hl rfl h.symm hA' hB'
  · exact sameints_len la lb A B c d w h
end Go.Proofs.YtckchihdeimgpaaDoor
