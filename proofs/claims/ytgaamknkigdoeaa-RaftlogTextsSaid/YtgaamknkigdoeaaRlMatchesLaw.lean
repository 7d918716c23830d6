/- RaftlogMatches walked: whatever comes in, it returns true. -/
import Derived.Test.YtgaamknkigdoeaaRlNoneLaw
namespace Go.Proofs.Ytgaamknkigdoeaa
open Go Go.RowKit

namespace rl
/-- what a match leaves -/
def merged (ls : List Ent) (p : Nat) (l : List Ent) : List Ent :=
  if common (ls.drop p) l < l.length then ls.take (p + common (ls.drop p) l) ++ l.drop (common (ls.drop p) l) else ls
theorem termAt_in (ls : List Ent) (p : Nat) (hp : p ≤ ls.length) : (termAt ls p).2 = true := by
  unfold termAt
  split
  · rfl
  · rw [if_neg (by omega)]
theorem match_here (ls : List Ent) (p : Nat) (l : List Ent) (hp : p ≤ ls.length) : match_ ls p (termAt ls p).1 l = (merged ls p l, p + l.length, 0) := by
  unfold match_
  rw [if_pos (Prod.ext rfl (termAt_in ls p hp) : termAt ls p = ((termAt ls p).1, true))]
  rfl
theorem merged_len (ls : List Ent) (p : Nat) (l : List Ent) (hp : p ≤ ls.length) : p + l.length ≤ (merged ls p l).length := by
  have h1 := common_le1 (ls.drop p) l
  rw [List.length_drop] at h1
  unfold merged
  split
  · rw [List.length_append, List.length_take, List.length_drop]; omega
  · omega
theorem merged_len2 (ls : List Ent) (p : Nat) (l : List Ent) : (merged ls p l).length ≤ ls.length + l.length := by
  unfold merged
  split
  · rw [List.length_append, List.length_take, List.length_drop]; omega
  · omega
theorem merged_ahead (ls : List Ent) (p : Nat) (l : List Ent) (hp : p ≤ ls.length) (i : Nat) (hi : i < p) : (merged ls p l).getD i e0 = ls.getD i e0 := by
  have h1 := common_le1 (ls.drop p) l
  rw [List.length_drop] at h1
  unfold merged
  split
  · rw [List.getD_eq_getElem?_getD, List.getD_eq_getElem?_getD, List.getElem?_append_left (by rw [List.length_take]; omega), List.getElem?_take_of_lt (by omega)]
  · rfl
theorem merged_terms (ls : List Ent) (p : Nat) (l : List Ent) (hp : p ≤ ls.length) (i : Nat) (hi : i < l.length) : ((merged ls p l).getD (p + i) e0).1 = (l.getD i e0).1 := by
  have h1 := common_le1 (ls.drop p) l
  have hs := common_spec (ls.drop p) l
  have hd : ∀ k, (ls.drop p).getD k e0 = ls.getD (p + k) e0 := fun k => by rw [List.getD_eq_getElem?_getD, List.getD_eq_getElem?_getD, List.getElem?_drop]
  rw [List.length_drop] at h1
  unfold merged
  split
  · by_cases hc : i < common (ls.drop p) l
    · rw [← hs i hc, hd, List.getD_eq_getElem?_getD, List.getElem?_append_left (by rw [List.length_take]; omega), List.getElem?_take_of_lt (by omega), ← List.getD_eq_getElem?_getD]
    · have hl : (ls.take (p + common (ls.drop p) l)).length = p + common (ls.drop p) l := by rw [List.length_take]; omega
      rw [List.getD_eq_getElem?_getD, List.getElem?_append_right (by rw [hl]; omega), hl, List.getElem?_drop, show common (ls.drop p) l + (p + i - (p + common (ls.drop p) l)) = i from by omega, ← List.getD_eq_getElem?_getD]
  · rw [← hs i (by omega), hd]
theorem merged_again (ls : List Ent) (p : Nat) (l : List Ent) (hp : p ≤ ls.length) : match_ (merged ls p l) p (termAt ls p).1 l = (merged ls p l, p + l.length, 0) := by
  have hl := merged_len ls p l hp
  have ht : termAt (merged ls p l) p = termAt ls p := by
    unfold termAt
    by_cases h : p = 0
    · rw [if_pos h, if_pos h]
    · rw [if_neg h, if_neg h, if_neg (by omega), if_neg (by omega), merged_ahead ls p l hp (p - 1) (by omega)]
  have hc : common ((merged ls p l).drop p) l = l.length := by
    apply common_eq
    · rw [List.length_drop]; omega
    · exact Nat.le_refl _
    · intro k hk
      rw [← merged_terms ls p l hp k hk, List.getD_eq_getElem?_getD, List.getElem?_drop, ← List.getD_eq_getElem?_getD]
    · intro _ h; exact absurd h (Nat.lt_irrefl _)
  have hh := match_here (merged ls p l) p l (by omega)
  rw [ht] at hh
  rw [hh]
  have : merged (merged ls p l) p l = merged ls p l := by
    show (if common ((merged ls p l).drop p) l < l.length then _ else merged ls p l) = merged ls p l
    rw [hc, if_neg (Nat.lt_irrefl _)]
  rw [this]
theorem getD_lt (ls : List Ent) (h : ∀ x ∈ ls, x.1 < 18446744073709551616) (i : Nat) : (ls.getD i e0).1 < 18446744073709551616 := by
  by_cases hi : i < ls.length
  · have : ls.getD i e0 ∈ ls := by
      rw [List.getD_eq_getElem?_getD, List.getElem?_eq_getElem hi]; exact List.getElem_mem _
    exact h _ this
  · rw [List.getD_eq_getElem?_getD, List.getElem?_eq_none (by omega)]; decide
theorem termAt_lt (ls : List Ent) (h : ∀ x ∈ ls, x.1 < 18446744073709551616) (i : Nat) : (termAt ls i).1 < 18446744073709551616 := by
  unfold termAt
  split
  · decide
  · split
    · decide
    · exact getD_lt ls h _
end rl
theorem Ents.row {w : World} {A : Option Addr} {n c : Nat} {ls : List rl.Ent} (h : Ents w (.slice A n c) ls) (k : Nat) (hk : k < n) :
    ∃ b o, A = some ⟨b, o, none⟩ ∧ w.cell? ⟨b, o + k * 2, none⟩ = some (.int .u64 ((ls.getD k rl.e0).1 : Int)) ∧ w.cell? ⟨b, o + k * 2 + 1, none⟩ = some (.string (crcm.mk (ls.getD k rl.e0).2)) := by
  have hn : n = ls.length := by obtain ⟨A', c', e, _⟩ := h; injection e
  obtain ⟨b, o, rfl, hA⟩ := h.at_ (by omega)
  obtain ⟨h0, h1⟩ := hA k (by omega)
  exact ⟨b, o, rfl, h0, h1⟩

set_option maxRecDepth 100000 in
set_option maxHeartbeats 4000000 in
theorem rmatches_law (T : Nat) (V : Int) (v lv : Value) (pv : Nat) (ls l : List rl.Ent) (w : World) (hv : Ents w v ls) (hf : Fine ls) (hv2 : Ents w lv l) (hf2 : Fine l) (hpv : pv < 256) :
    Calls Try.prog 3 #[stV T V v, .int .u8 (pv : Int), lv] w fun e w' => e = .returned (.bool true) ∧ Below w.heap.size w w' := by
  obtain ⟨A, c, hu⟩ := hv.form
  obtain ⟨n, hn⟩ : ∃ n, ls.length = n := ⟨_, rfl⟩
  rw [hn] at hu
  subst hu
  obtain ⟨A2, c2, hu2⟩ := hv2.form
  obtain ⟨n2, hn2⟩ : ∃ n, l.length = n := ⟨_, rfl⟩
  rw [hn2] at hu2
  subst hu2
  have hb := below_box w (.int .u64 (T : Int)) (.int .i64 V) (.slice A n c) 25
  have hx := HBox.new (T := T) (V := V) 25 hv
  obtain ⟨X, hX⟩ : ∃ X, w.alloc (.cells #[.int .u64 (T : Int), .int .i64 V, .slice A n c] 25) = X := ⟨_, rfl⟩
  rw [hX] at hb hx
  have e2 := hv2.below hb
  have c1 := bounded_any _ ls X hx.e hf
  have c2' := bounded_any _ l X e2 hf2
  have s0 := hx.c0
  have s1 := hx.c1
  have s2 := hx.c2
  have HX := Lib.hid hX
  have HB := Lib.hid hb
  have HS := Lib.hid hx
  have HL := Lib.hid e2
  have Hn := Lib.hid hn
  have Hn2 := Lib.hid hn2
  have Hf := Lib.hid hf
  have Hf2 := Lib.hid hf2
  clear hX hb hx hv hv2 e2 hn hn2 hf hf2
  unfold stV
  by_cases ha : okEnts ls = true
  · rw [ha] at c1
    have C1 := Lib.hid c1
    by_cases hbb : okEnts l = true
    · rw [hbb] at c2'
      have C2 := Lib.hid c2'
      have hl1 := (ok_bounds ha).1
      have hl2 := (ok_bounds hbb).1
      rw [Hn.out] at hl1
      rw [Hn2.out] at hl2
      clear c1 c2' ha hbb
      obtain ⟨p, hp⟩ : ∃ p, pv % (n + 1) = p := ⟨_, rfl⟩
      have hpn : p ≤ n := by rw [← hp]; exact Nat.le_of_lt_succ (Nat.mod_lt _ (by omega))
      have hpi : (pv : Int) % ((n : Int) + 1) = (p : Int) := by rw [← hp]; simp
      have hpt : (pv : Int).tmod ((n : Int) + 1) = (p : Int) := by rw [Int.tmod_eq_emod_of_nonneg (by omega)]; exact hpi
      obtain ⟨t, ht⟩ : ∃ t, (rl.termAt ls p).1 = t := ⟨_, rfl⟩
      have ht2 : rl.termAt ls p = (t, true) := by rw [← ht]; exact Prod.ext rfl (rl.termAt_in ls p (by rw [Hn.out]; exact hpn))
      obtain ⟨ms, hms⟩ : ∃ ms, rl.merged ls p l = ms := ⟨_, rfl⟩
      have m1 := rl.match_here ls p l (by rw [Hn.out]; exact hpn)
      have m2 := rl.merged_again ls p l (by rw [Hn.out]; exact hpn)
      have m3 := rl.merged_len ls p l (by rw [Hn.out]; exact hpn)
      have m4 := rl.merged_ahead ls p l (by rw [Hn.out]; exact hpn)
      have m5 := rl.merged_terms ls p l (by rw [Hn.out]; exact hpn)
      have m6 := rl.merged_len2 ls p l
      have tlt := rl.termAt_lt ls (fun x h => (Hf.out.2 x h).1) p
      obtain ⟨nm, hnm⟩ : ∃ nm, ms.length = nm := ⟨_, rfl⟩
      rw [hms, ht, Hn2.out] at m1 m2
      rw [hms, hnm, Hn2.out] at m3
      rw [hms, hnm, Hn2.out, Hn.out] at m6
      rw [hms] at m4
      rw [hms, Hn2.out] at m5
      rw [ht] at tlt
      have HT2 := Lib.hid ht2
      have M1 := Lib.hid m1
      have M2 := Lib.hid m2
      have M4 := Lib.hid m4
      have M5 := Lib.hid m5
      have HTL := Lib.hid tlt
      have HNM := Lib.hid hnm
      clear hp ht ht2 hms m1 m2 m4 m5 tlt hnm
      have hnn : (n : Int) + 1 ≠ 0 := by omega
      go_enter Try.func3, Try.ntmps3
      go_wp2_with fail
      rw [HX.out]
      refine C1.out.mono ?_
      rintro e w1 ⟨rfl, rfl⟩
      go_wp2_with fail
      refine C2.out.mono ?_
      rintro e w1 ⟨rfl, rfl⟩
      go_wp2_with fail
      refine (shown_any _).mono ?_
      rintro e w1 ⟨rfl, hb1⟩
      clear C1 C2 HX
      have hb := HB.out.trans (hb1.mono HB.out.size)
      have hx := HS.out.below hb1
      have e2 := HL.out.below hb1
      clear s0 s1 s2 HB HS HL hb1
      have s0 := hx.c0
      have s1 := hx.c1
      have s2 := hx.c2
      have HB := Lib.hid hb
      have HS := Lib.hid hx
      have HL := Lib.hid e2
      clear hb hx e2
      go_wp2_with fail
      refine (termAt_any T V _ ls p _ HS.out.e (by rw [Hn.out]; omega) (by omega)).mono ?_
      rw [HT2.out]
      rintro e w2 ⟨rfl, hb1⟩
      have hb := HB.out.trans (hb1.mono HB.out.size)
      have hx := HS.out.below hb1
      have e2 := HL.out.below hb1
      clear s0 s1 s2 HB HS HL hb1
      have s0 := hx.c0
      have s1 := hx.c1
      have s2 := hx.c2
      have HB := Lib.hid hb
      have HS := Lib.hid hx
      have HL := Lib.hid e2
      clear hb hx e2
      go_wp2_with fail
      refine (match_any T V _ _ ls l p t _ HS.out.e HL.out (by rw [Hn.out]; omega) (by rw [Hn2.out]; omega) (by omega)).mono ?_
      rintro e w3 ⟨u1, rfl, hE1, hb1⟩
      rw [M1.out] at hE1 ⊢
      obtain ⟨A1, k1, hu1⟩ := hE1.form
      rw [HNM.out] at hu1
      subst hu1
      have hb := HB.out.trans (hb1.mono HB.out.size)
      have hx := HS.out.below hb1
      have e2 := HL.out.below hb1
      clear s0 s1 s2 HB HS HL hb1
      have s0 := hx.c0
      have s1 := hx.c1
      have s2 := hx.c2
      have HB := Lib.hid hb
      have HS := Lib.hid hx
      have HL := Lib.hid e2
      clear hb hx e2
      have hbx := HBox.new (T := T) (V := V) 25 hE1
      have hb1 := below_box w3 (.int .u64 (T : Int)) (.int .i64 V) (.slice A1 nm k1) 25
      have hb := HB.out.trans (hb1.mono HB.out.size)
      have hx := HS.out.below hb1
      have e2 := HL.out.below hb1
      clear s0 s1 s2 HB HS HL hb1
      have s0 := hx.c0
      have s1 := hx.c1
      have s2 := hx.c2
      have HB := Lib.hid hb
      have HS := Lib.hid hx
      have HL := Lib.hid e2
      clear hb hx e2
      have r0 := hbx.c0
      have r1 := hbx.c1
      have r2 := hbx.c2
      have HM := Lib.hid hbx
      have hpn2 : (p : Int) + (n2 : Int) = ((p + n2 : Nat) : Int) := by omega
      obtain ⟨q, hq⟩ : ∃ q, p + n2 = q := ⟨_, rfl⟩
      rw [hq] at hpn2 m3 ⊢
      have g1 : ((q : Int) != (q : Int)) = false := by simp
      have g2 : ((T : Int) != (T : Int)) = false := by simp
      have g3 : (V != V) = false := by simp
      have g4 : ¬ ((nm : Int) < (q : Int)) := by omega
      have HQ := Lib.hid hq
      clear hbx hE1 hq
      unfold stV
      have hm3 : q ≤ nm := m3
      have hqp : p + n2 ≤ q := Nat.le_of_eq HQ.out
      go_wp2
      obtain ⟨G1, hG1⟩ : ∃ g, w3.heap.size = g := ⟨_, rfl⟩
      obtain ⟨Y1, hY1⟩ : ∃ Y, w3.alloc (.cells #[.int .u64 (T : Int), .int .i64 V, .slice A1 nm k1] 25) = Y := ⟨_, rfl⟩
      have hm := HM.out
      rw [hY1] at s0 s1 s2 HS HL HB hm r0 r1 r2 ⊢
      rw [hG1] at hm r0 r1 r2 ⊢
      have HM := Lib.hid hm
      clear hm hG1 hY1 m3
      go_loopw [13] (fun i wr => ∃ k q : Nat, k ≤ p ∧ i = .int .i64 k ∧ Y1.drewN q = wr) (fun i _ => p - (intOf i).toNat)
      case atStart => exact ⟨0, 0, Nat.zero_le _, rfl, rfl⟩
      case round =>
        obtain ⟨k, d, hk, rfl, rfl⟩ := hrel
        by_cases hlt : k < p
        · obtain ⟨b, o, rfl, x0, x1⟩ := HS.out.e.row k (by omega)
          obtain ⟨b', o', rfl, y0, y1⟩ := HM.out.e.row k (by omega)
          rw [M4.out k hlt] at y0 y1
          obtain ⟨x, hx⟩ : ∃ x, ls.getD k rl.e0 = x := ⟨_, rfl⟩
          rw [hx] at x0 x1 y0 y1
          have hi1 : (k : Int) < (n : Int) := by omega
          have hi2 : (k : Int) < (nm : Int) := by omega
          have f1 : ((x.1 : Int) == (x.1 : Int)) = true := by simp
          have f2 : (x.2 == x.2) = true := by simp
          have hml : (crcm.mk x.2).toList = x.2 := by rw [ByteArray.toList_eq]; rfl
          clear hx
          go_wp2
          go_quiet (fail)
          go_wp2
          go_roundw
          case rel => exact ⟨k + 1, _, by omega, by go_num, rfl⟩
          case measure => simp [intOf]; omega
        · obtain rfl : k = p := by omega
          go_wp2
          go_loopw [14] (fun i wr => ∃ j q : Nat, j ≤ n2 ∧ i = .int .i64 j ∧ Y1.drewN q = wr) (fun i _ => n2 - (intOf i).toNat)
          case atStart => exact ⟨0, d, Nat.zero_le _, rfl, rfl⟩
          case round =>
            obtain ⟨j, d2, hj, rfl, rfl⟩ := hrel
            by_cases hlt2 : j < n2
            · obtain ⟨b, o, rfl, x0, x1⟩ := HL.out.row j hlt2
              obtain ⟨b', o', rfl, y0, y1⟩ := HM.out.e.row (k + j) (by omega)
              rw [M5.out j hlt2] at y0
              obtain ⟨x, hx⟩ : ∃ x, l.getD j rl.e0 = x := ⟨_, rfl⟩
              rw [hx] at x0 x1 y0
              obtain ⟨kj, hkj⟩ : ∃ kj, k + j = kj := ⟨_, rfl⟩
              rw [hkj] at y0 y1
              have hkji : (k : Int) + (j : Int) = (kj : Int) := by omega
              have hkjw : IntKind.i64.wrap ((k : Int) + (j : Int)) = (kj : Int) := by rw [hkji]; simp [IntKind.wrap, IntKind.bits, IntKind.signed]; omega
              have hkw : IntKind.i64.wrap (k : Int) = (k : Int) := by simp [IntKind.wrap, IntKind.bits, IntKind.signed]; omega
              have hi1 : (j : Int) < (n2 : Int) := by omega
              have hi2 : (kj : Int) < (nm : Int) := by omega
              have f1 : ((x.1 : Int) != (x.1 : Int)) = false := by simp
              clear hx hkj hkji
              go_wp2
              go_quiet (fail)
              go_wp2
              go_roundw
              case rel => exact ⟨j + 1, _, by omega, by go_num, rfl⟩
              case measure => simp [intOf]; omega
            · obtain rfl : j = n2 := by omega
              go_wp2_with fail
              have hdb : Below Y1.heap.size Y1 (Y1.drewN d2) := below_drewN (Below.refl _ _) _
              have hm := HM.out.below hdb
              refine (match_any T V _ _ ms l k t _ hm.e (HL.out.below hdb) (by rw [HNM.out]; omega) (by rw [Hn2.out]; omega) (by omega)).mono ?_
              rintro e w4 ⟨u2, rfl, hE2, hb1⟩
              rw [M2.out, HQ.out] at *
              obtain ⟨A3, k3, hu3⟩ := hE2.form
              rw [HNM.out] at hu3
              subst hu3
              have hm4 := hm.below hb1
              have hb4 := HB.out.trans ((hdb.trans (hb1.mono hdb.size)).mono HB.out.size)
              have hbx := HBox.new (T := T) (V := V) 25 hE2
              have hb5 := below_box w4 (.int .u64 (T : Int)) (.int .i64 V) (.slice A3 nm k3) 25
              have hm5 := hm4.below hb5
              have HB5 := Lib.hid (hb4.trans (hb5.mono hb4.size))
              have HM5 := Lib.hid hm5
              have HX5 := Lib.hid hbx
              clear hbx hm5 hb5 hb4 hm4 hE2 hb1 hm hdb s0 s1 s2 r0 r1 r2 HS HM HL HB
              unfold stV
              go_wp2
              have hm5 := HM5.out
              have hx5 := HX5.out
              obtain ⟨G2, hG2⟩ : ∃ g, w4.heap.size = g := ⟨_, rfl⟩
              obtain ⟨Y3, hY3⟩ : ∃ Y, w4.alloc (.cells #[.int .u64 (T : Int), .int .i64 V, .slice A3 nm k3] 25) = Y := ⟨_, rfl⟩
              rw [hY3] at HB5 hm5 hx5 ⊢
              rw [hG2] at hx5 ⊢
              have MK : Hid (∀ w', Below Y3.heap.size Y3 w' → w'.cell? ⟨G1, 0, none⟩ = some (.int .u64 (T : Int)) ∧ w'.cell? ⟨G1, 1, none⟩ = some (.int .i64 V) ∧ w'.cell? ⟨G1, 2, none⟩ = some (.slice A1 nm k1) ∧
                w'.cell? ⟨G2, 0, none⟩ = some (.int .u64 (T : Int)) ∧ w'.cell? ⟨G2, 1, none⟩ = some (.int .i64 V) ∧ w'.cell? ⟨G2, 2, none⟩ = some (.slice A3 nm k3)) := Lib.hid (fun w' h =>
                ⟨cell_later h hm5.c0, cell_later h hm5.c1, cell_later h hm5.c2, cell_later h hx5.c0, cell_later h hx5.c1, cell_later h hx5.c2⟩)
              have E0 := Lib.hid hm5.e
              have E1 := Lib.hid hx5.e
              have hW : Below Y3.heap.size Y3 Y3.drew := below_drewN (Below.refl _ Y3) 1
              clear hm5 hx5 hG2 hY3 HM5 HX5
              go_region_held3 (fun w' => w'.cell? ⟨G1, 0, none⟩ = some (.int .u64 (T : Int)) ∧ w'.cell? ⟨G1, 1, none⟩ = some (.int .i64 V) ∧ w'.cell? ⟨G1, 2, none⟩ = some (.slice A1 nm k1) ∧
                w'.cell? ⟨G2, 0, none⟩ = some (.int .u64 (T : Int)) ∧ w'.cell? ⟨G2, 1, none⟩ = some (.int .i64 V) ∧ w'.cell? ⟨G2, 2, none⟩ = some (.slice A3 nm k3))
                (exact MK.out _ hW)
                (first | (go_at_call 13; refine (its_any T V _ ms _ ?_ (by rw [HNM.out]; omega)).mono ?_; (first | exact E0.out.below hW | exact E1.out.below hW); rintro e w6 ⟨u, rfl, hE, hb⟩; (try have hE0' := Ents.below hE0 hb); have hE0 := hE; have hW := hW.trans (hb.mono hW.size); obtain ⟨Au, ku, hu⟩ := hE.form; subst hu; unfold stV) | (go_at_call 12; refine (same_self T V _ _ ms _ ?_ ?_ (by rw [HNM.out]; omega)).mono ?_; (first | exact hE0 | exact hE0'); (first | exact hE0 | exact hE0'); rintro e w6 ⟨rfl, hb⟩; have hW := hW.trans (hb.mono hW.size)))
              all_goals
                have HFIN := Lib.hid (HB5.out.trans (hW.mono HB5.out.size))
                clear hW hb hE hE0 hE0'
                simp only [Exit.then]
                go_wp2
                go_ret
                exact ⟨rfl, HFIN.out⟩
    · rw [Bool.not_eq_true] at hbb
      rw [hbb] at c2'
      have C2 := Lib.hid c2'
      clear c1 c2' ha hbb
      go_enter Try.func3, Try.ntmps3
      go_wp2_with fail
      rw [HX.out]
      refine C1.out.mono ?_
      rintro e w1 ⟨rfl, rfl⟩
      go_wp2_with fail
      refine C2.out.mono ?_
      rintro e w1 ⟨rfl, rfl⟩
      go_wp2_with fail
      refine (shown_any _).mono ?_
      rintro e w1 ⟨rfl, hb1⟩
      have HB2 := Lib.hid (HB.out.trans (hb1.mono HB.out.size))
      clear hb1
      go_wp2
      go_ret
      exact ⟨rfl, HB2.out⟩
  · rw [Bool.not_eq_true] at ha
    rw [ha] at c1
    have C1 := Lib.hid c1
    clear c1 c2' ha
    go_enter Try.func3, Try.ntmps3
    go_wp2_with fail
    rw [HX.out]
    refine C1.out.mono ?_
    rintro e w1 ⟨rfl, rfl⟩
    go_wp2_with fail
    refine (shown_any _).mono ?_
    rintro e w1 ⟨rfl, hb1⟩
    have HB2 := Lib.hid (HB.out.trans (hb1.mono HB.out.size))
    clear hb1
    go_wp2
    go_ret
    exact ⟨rfl, HB2.out⟩
end Go.Proofs.Ytgaamknkigdoeaa
