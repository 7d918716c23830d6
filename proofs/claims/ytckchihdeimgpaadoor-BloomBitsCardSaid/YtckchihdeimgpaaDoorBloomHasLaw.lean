/- BloomHas walked: whatever comes in, it returns true. -/
import Derived.Test.YtckchihdeimgpaaDoorBloomLaws1
namespace Go.Proofs.YtckchihdeimgpaaDoor
namespace blm
theorem getB_false_all (fl : List UInt8) (h : ∀ k, getB fl k = false) (m : Nat) : cnt fl m = 0 := by
  induction m with
  | zero => rfl
  | succ m ih => unfold cnt; rw [ih, h]; rfl
theorem full_nil (n : Nat) (hn : 0 < n) : full (filt n []) = 0 := by
  rw [← cnt_full]
  apply getB_false_all
  intro k
  rw [getB_filt n hn]
  simp
/-- how many of the first m numbers are in a list -/
def hits (l : List Nat) : Nat → Nat
  | 0 => 0
  | m + 1 => hits l m + (decide (m ∈ l)).toNat
theorem hits_le (l : List Nat) (m : Nat) : hits l m ≤ l.length := by
  suffices h : ∀ (l : List Nat) m, hits l m + (l.filter fun x => decide (m ≤ x)).length ≤ l.length by have := h l m; omega
  intro l m
  induction m with
  | zero => unfold hits; have := List.length_filter_le (fun x => decide (0 ≤ x)) l; omega
  | succ m ih =>
    have h1 : (l.filter fun x => decide (m ≤ x)).length = (l.filter fun x => decide (m + 1 ≤ x)).length + (l.filter fun x => decide (x = m)).length := by
      clear ih
      induction l with
      | nil => rfl
      | cons a r ih =>
        rw [List.filter_cons, List.filter_cons, List.filter_cons]
        by_cases e : a = m
        · subst e
          have : ¬ a + 1 ≤ a := by omega
          simp [this]; omega
        · by_cases g : m ≤ a
          · have : m + 1 ≤ a := by omega
            simp [e, g, this]; omega
          · have : ¬ m + 1 ≤ a := by omega
            simp [e, g, this]; omega
    have h2 : (decide (m ∈ l)).toNat ≤ (l.filter fun x => decide (x = m)).length := by
      by_cases hm : m ∈ l
      · have : 0 < (l.filter fun x => decide (x = m)).length := List.length_pos_of_mem (a := m) (by simp [hm])
        simp [hm]; omega
      · simp [hm]
    unfold hits
    omega
theorem cnt_hits (n : Nat) (hn : 0 < n) (names : List (List UInt8)) (m : Nat) : cnt (filt n names) m = hits (names.flatMap fun s => places s (8 * n)) m := by
  induction m with
  | zero => rfl
  | succ m ih =>
    unfold cnt hits
    rw [ih, getB_filt n hn]
    congr 2
    rw [Bool.eq_iff_iff]
    simp
theorem flat_len (names : List (List UInt8)) (m : Nat) : (names.flatMap fun s => places s m).length = 4 * names.length := by
  induction names with
  | nil => rfl
  | cons a r ih => rw [List.flatMap_cons, List.length_append, ih, List.length_cons]; simp [places]; omega
theorem full_names (n : Nat) (hn : 0 < n) (names : List (List UInt8)) : full (filt n names) ≤ 4 * names.length := by
  rw [← cnt_full, filt_len, cnt_hits n hn, ← flat_len names (8 * n)]
  exact hits_le _ _
theorem make_ok (names : List (List UInt8)) (each : Nat) (h : 1 ≤ each) (h2 : each ≤ 64) (hn : names.length ≤ 2000) : ∃ n, 8 ≤ n ∧ n ≤ 20000 ∧ make names (each : Int) = (filt n names, 0) := by
  have hp1 : names.length * each ≤ 2000 * 64 := Nat.mul_le_mul hn h2
  refine ⟨fsize names.length each, by unfold fsize; omega, by unfold fsize; omega, ?_⟩
  unfold make; rw [if_neg (by omega), if_neg (by omega)]; rfl
end blm
open Go Go.RowKit

theorem bhas_out (v : Value) (names : List (List UInt8)) (b : Nat) (w : World) (hv : Texts w v names) (hok : okNames names = false) (ht : TabAt w) :
    Calls Tryd.prog 5 #[v, .int .u8 (b : Int)] w fun e w' => e = .returned (.bool true) ∧ Below w.heap.size w w' := by
  have hbo := bounded_any v names w hv
  rw [show (decide (names.length ≤ 100) && names.all fun t => decide (t.length ≤ 200)) = false from hok] at hbo
  have HBO := Lib.hid hbo
  clear hbo
  go_enter Tryd.func5, Tryd.ntmps5
  go_wp2_with fail
  refine HBO.out.mono ?_
  rintro e w0 ⟨rfl, rfl⟩
  go_wp2_with (go_at_call 10; refine (shown_any _ ht).mono ?_; rintro e w1 ⟨rfl, hb1⟩)
  go_ret
  exact ⟨rfl, hb1⟩

set_option maxHeartbeats 4000000 in
theorem bhas_in (v : Value) (names : List (List UInt8)) (b : Nat) (w : World) (hv : Texts w v names) (hok : okNames names = true) (hb : b ≤ 255) (ht : TabAt w) :
    Calls Tryd.prog 5 #[v, .int .u8 (b : Int)] w fun e w' => e = .returned (.bool true) ∧ Below w.heap.size w w' := by
  have hbo := bounded_any v names w hv
  rw [show (decide (names.length ≤ 100) && names.all fun t => decide (t.length ≤ 200)) = true from hok] at hbo
  have HBO := Lib.hid hbo
  obtain ⟨hnl, hns⟩ := okNames_in hok
  obtain ⟨each, hea⟩ : ∃ each, 1 + b % 64 = each := ⟨_, rfl⟩
  have hei : 1 + (b : Int) % 64 = (each : Int) := by omega
  obtain ⟨n, hn1, hn2, hmk⟩ := blm.make_ok names each (by omega) (by omega) (by omega)
  have hfl := blm.filt_len n names
  have hmay := fun s h => blm.may_filt n (by omega) names s h
  have hfu := blm.full_names n (by omega) names
  have hfn := blm.full_nil n (by omega)
  have hin : ∀ t ∈ names, t.length ≤ 1000000 := fun t h => Nat.le_trans (hns t h) (by decide)
  have HIN := Lib.hid hin
  have HNS := Lib.hid hns
  obtain ⟨F, hF⟩ : ∃ F, blm.filt n names = F := ⟨_, rfl⟩
  rw [hF] at hmk hfl hmay hfu
  have hsz : (crcm.mk F).size = n := by rw [crcm.mk_size, hfl]
  have HMK := Lib.hid hmk
  have HMAY := Lib.hid hmay
  have HFN := Lib.hid hfn
  have HFD := Lib.hid hF
  obtain ⟨⟨A, c, rfl, hA⟩, _⟩ := id hv
  have HA := Lib.hid hA
  obtain ⟨l, hl⟩ : ∃ l, names.length = l := ⟨_, rfl⟩
  rw [hl] at HA hnl hfu HBO hv ⊢
  have Hl := Lib.hid hl
  obtain ⟨N, hN⟩ : ∃ N, blm.full F = N := ⟨_, rfl⟩
  rw [hN] at hfu
  have HN := Lib.hid hN
  clear hbo hin hns hea hmk hmay hfn hF hA hl hN hok hfl
  go_enter Tryd.func5, Tryd.ntmps5
  go_wp2_with fail
  refine HBO.out.mono ?_
  rintro e w0 ⟨rfl, rfl⟩
  go_wp2_with fail
  refine (shown_any _ ht).mono ?_
  rintro e w1 ⟨rfl, hb1⟩
  have ht1 := ht.below hb1 ht.1
  have hv1 := hv.below hb1
  have HB1 := Lib.hid hb1
  clear hb1
  go_wp2_with fail
  refine (make_any _ names (each : Int) w1 hv1 HIN.out ht1).mono ?_
  unfold MakePost
  rw [HMK.out]
  rintro e w2 ⟨rfl, hb2⟩
  have ht2 := ht1.below hb2 ht1.1
  have HB2 := Lib.hid (HB1.out.trans (hb2.mono HB1.out.size))
  clear hb2
  go_wp2_with fail
  go_loopw [7] (fun i wr => ∃ k : Nat, k ≤ l ∧ i = .int .i64 k ∧ Below w.heap.size w wr) (fun i _ => l - (intOf i).toNat)
  case atStart => exact ⟨0, Nat.zero_le _, rfl, HB2.out⟩
  case round =>
    obtain ⟨k, hk, rfl, hbel⟩ := hrel
    have htr := ht.below hbel ht.1
    have HBE := Lib.hid hbel
    by_cases hlt : k < l
    · obtain ⟨a1, rfl, c1⟩ := HA.out k hlt
      have c1' := cell_later hbel c1
      have hmem : names.getD k [] ∈ names := by
        rw [List.getD_eq_getElem?_getD, List.getElem?_eq_getElem (by rw [Hl.out]; exact hlt)]; exact List.getElem_mem _
      have htm := HIN.out _ hmem
      have hma := HMAY.out _ hmem
      obtain ⟨t, hte⟩ : ∃ t, names.getD k [] = t := ⟨_, rfl⟩
      rw [hte] at c1' htm hma
      have hmy := may_any (crcm.mk F) (crcm.mk t) wr (by omega) (by rw [crcm.mk_size]; exact htm) htr
      rw [crcm.mk_toList, crcm.mk_toList, hma] at hmy
      have HMY := Lib.hid hmy
      clear hmem hte c1 hma hmy hbel
      go_wp2_with (go_at_call 18; refine HMY.out.mono ?_; rintro e w3 ⟨rfl, hb3⟩)
      go_roundw
      case rel => exact ⟨k + 1, by omega, by go_num, HBE.out.trans (hb3.mono HBE.out.size)⟩
      case measure => simp [intOf]; omega
    · obtain rfl : k = l := by omega
      clear hbel
      have hfull := full_any (crcm.mk F) wr (by omega)
      rw [crcm.mk_toList, HN.out] at hfull
      have HFU := Lib.hid hfull
      clear hfull
      by_cases hk0 : k = 0
      · subst hk0
        have hnil : names = [] := List.eq_nil_of_length_eq_zero Hl.out
        have hN0 : N = 0 := by rw [← HN.out, ← HFD.out, hnil]; exact HFN.out
        subst hN0
        clear hnil
        go_wp2_with fail
        refine HFU.out.mono ?_
        rintro e w3 ⟨rfl, hb3⟩
        have hfull := full_any (crcm.mk F) w3 (by omega)
        rw [crcm.mk_toList, HN.out] at hfull
        have HB3 := Lib.hid (HBE.out.trans (hb3.mono HBE.out.size))
        have HFU2 := Lib.hid hfull
        clear hfull hb3
        go_wp2_with fail
        refine HFU2.out.mono ?_
        rintro e w4 ⟨rfl, hb4⟩
        go_wp2_with fail
        go_ret
        exact ⟨rfl, HB3.out.trans (hb4.mono HB3.out.size)⟩
      · go_wp2_with fail
        refine HFU.out.mono ?_
        rintro e w3 ⟨rfl, hb3⟩
        go_wp2_with fail
        go_ret
        exact ⟨rfl, HBE.out.trans (hb3.mono HBE.out.size)⟩
theorem bhas_law (v : Value) (names : List (List UInt8)) (b : Nat) (w : World) (hv : Texts w v names) (hb : b ≤ 255) (ht : TabAt w) :
    Calls Tryd.prog 5 #[v, .int .u8 (b : Int)] w fun e w' => e = .returned (.bool true) ∧ Below w.heap.size w w' := by
  cases hok : okNames names with
  | false => exact bhas_out v names b w hv hok ht
  | true => exact bhas_in v names b w hv hok hb ht
end Go.Proofs.YtckchihdeimgpaaDoor
