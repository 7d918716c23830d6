/- All texts one behind the other, by the document, walked; two lists of texts compared. -/
import Derived.Test.YtdnoeahhidmkbaaDoorCrcRef
import Derived.Test.YtdnoeahhidmkbaaDoorStrs
namespace Go.Proofs.YtdnoeahhidmkbaaDoor
open Go Go.RowKit
set_option maxRecDepth 100000

theorem same_len (la lb : List (List UInt8)) (A B : Option Addr) (c d : Nat) (w : World) (hne : la.length ≠ lb.length) :
    Calls Tryd.prog 13 #[.slice A la.length c, .slice B lb.length d] w fun e w' => e = .returned (.bool (decide (la = lb))) ∧ ∃ q, w.drewN q = w' := by
  have hd : decide (la = lb) = false := by rw [decide_eq_false_iff_not]; intro e; exact hne (by rw [e])
  rw [hd]
  clear hd
  have hne' : ((la.length : Int) != (lb.length : Int)) = true := by rw [bne_iff_ne]; omega
  go_enter Tryd.func13, Tryd.ntmps13
  go_wp2
  go_ret
  exact ⟨rfl, 0, rfl⟩

set_option maxHeartbeats 1000000 in
theorem same_any (la lb : List (List UInt8)) (A B : Option Addr) (c d n : Nat) (w : World) (hn : n ≤ maxLen) (h1 : la.length = n) (h2 : lb.length = n)
    (hA : ∀ k, k < n → ∃ ad, A = some ad ∧ w.cell? (ad.add k) = some (.string (crcm.mk (la.getD k [])))) (hB : ∀ k, k < n → ∃ ad, B = some ad ∧ w.cell? (ad.add k) = some (.string (crcm.mk (lb.getD k [])))) :
    Calls Tryd.prog 13 #[.slice A n c, .slice B n d] w fun e w' => e = .returned (.bool (decide (la = lb))) ∧ ∃ q, w.drewN q = w' := by
  unfold maxLen at hn
  have H1 := Lib.hid h1
  have H2 := Lib.hid h2
  clear h1 h2
  have hne' : ((n : Int) != (n : Int)) = false := by simp
  go_enter Tryd.func13, Tryd.ntmps13
  go_wp2
  go_loopw [5] (fun i wr => ∃ k q : Nat, k ≤ n ∧ i = .int .i64 k ∧ w.drewN q = wr ∧ la.take k = lb.take k) (fun i _ => n - (intOf i).toNat)
  case atStart => exact ⟨0, 0, Nat.zero_le _, rfl, rfl, rfl⟩
  case round =>
    obtain ⟨k, q, hk, rfl, rfl, hle⟩ := hrel
    have HL := Lib.hid hle
    clear hle
    by_cases hlt : k < n
    · obtain ⟨a1, rfl, c1⟩ := hA k hlt
      obtain ⟨b1, rfl, c2⟩ := hB k hlt
      clear hA hB
      have ka : la[k]? = some (la.getD k []) := by rw [List.getD_eq_getElem?_getD, List.getElem?_eq_getElem (by rw [H1.out]; exact hlt)]; rfl
      have kb : lb[k]? = some (lb.getD k []) := by rw [List.getD_eq_getElem?_getD, List.getElem?_eq_getElem (by rw [H2.out]; exact hlt)]; rfl
      have hta : la.take (k + 1) = la.take k ++ [la.getD k []] := by rw [List.take_add_one, ka]; rfl
      have htb : lb.take (k + 1) = lb.take k ++ [lb.getD k []] := by rw [List.take_add_one, kb]; rfl
      obtain ⟨x, hx⟩ : ∃ x, la.getD k [] = x := ⟨_, rfl⟩
      obtain ⟨y, hy⟩ : ∃ x, lb.getD k [] = x := ⟨_, rfl⟩
      rw [hx] at hta ka c1
      rw [hy] at htb kb c2
      have HTA := Lib.hid hta
      have HTB := Lib.hid htb
      have HKA := Lib.hid ka
      have HKB := Lib.hid kb
      clear hta htb ka kb hx hy
      have hml := mk_toL
      by_cases hxy : x = y
      · subst hxy
        have hb : (x == x) = true := by simp
        have hi : (k : Int) < (n : Int) := by omega
        go_wp2
        go_quiet (fail)
        go_wp2
        go_roundw
        case rel => exact ⟨k + 1, _, by omega, by go_num, rfl, by rw [HTA.out, HTB.out, HL.out]⟩
        case measure => simp [intOf]; omega
      · have hb : (x == y) = false := by rw [beq_eq_false_iff_ne]; exact hxy
        have hd : decide (la = lb) = false := by
          rw [decide_eq_false_iff_not]; intro e; have := HKA.out; rw [e, HKB.out] at this; exact hxy (Option.some.inj this).symm
        have HD := Lib.hid hd
        clear hd
        go_wp2
        go_quiet (fail)
        go_wp2
        go_ret
        exact ⟨by rw [HD.out]; rfl, _, by first | rfl | exact (World.drewN_drewN _ _ _).symm⟩
    · clear hA hB
      have hd : decide (la = lb) = true := by
        rw [decide_eq_true_iff]
        have := HL.out
        rwa [List.take_of_length_le (by rw [H1.out]; omega), List.take_of_length_le (by rw [H2.out]; omega)] at this
      have HD := Lib.hid hd
      clear hd
      go_wp2
      go_ret
      exact ⟨by rw [HD.out]; rfl, _, by first | rfl | exact (World.drewN_drewN _ _ _).symm⟩

theorem same_texts {w : World} {a b : Value} {la lb : List (List UInt8)} (ha : Strs w a la) (hb : Strs w b lb) (hl : la.length ≤ maxLen) :
    Calls Tryd.prog 13 #[a, b] w fun e w' => e = .returned (.bool (decide (la = lb))) ∧ ∃ q, w.drewN q = w' := by
  obtain ⟨A, c, rfl, hA⟩ := ha
  obtain ⟨B, d, rfl, hB⟩ := hb
  by_cases h : la.length = lb.length
  · rw [← h] at hB ⊢
    exact same_any la lb A B c d la.length w hl rfl h.symm hA hB
  · exact same_len la lb A B c d w h

theorem info_string : (Tryd.prog.info? 9).map (fun i => (i.zero, i.size, i.bytes)) = some (some (.string .empty), 1, 16) := by kernel_rfl
def strV (l : List UInt8) : Value := .string (crcm.mk l)

theorem grown_of_below {a w : World} (h : Below a.heap.size a w) (row : Option Nat) : a.grownBy w row := ⟨h.os, h.tape, h.output, h.size, fun i hi _ => h.block i hi⟩
theorem owns_below {a w : World} {base : Nat} {e : TypeId} {size n : Nat} {v : Value} {xs : List Value} (h : a.ownsRow base e size v n xs) (hb : Below a.heap.size a w) : w.ownsRow base e size v n xs :=
  h.kept (grown_of_below hb none) (by cases v.ownBlock with | none => exact .inl rfl | some k => exact .inr (by simp))
theorem cell_new1 (w : World) (v : Value) (e : TypeId) : ∀ j u, [v][j]? = some u → (w.alloc (.cells #[v] e)).cell? ((⟨w.heap.size, 0, none⟩ : Addr).add j) = some u := by
  intro j u hj
  match j, hj with
  | 0, hj => simp at hj; subst hj; simp [Addr.add]
theorem strV_one (l : List UInt8) : ∀ u ∈ [strV l], u.oneCell' = true := by intro u hu; simp at hu; subst hu; rfl
theorem strs_of_owns {w : World} {base : Nat} {e : TypeId} {v : Value} {n : Nat} {ls : List (List UInt8)} (hn : n = ls.length) (h : w.ownsRow base e 1 v n (ls.map strV)) : Strs w v ls := by
  subst hn
  rcases h.2 with ⟨rfl, h0⟩ | ⟨g, cap, cur, rfl, _⟩
  · have : ls = [] := by simpa using h0
    subst this
    exact ⟨none, 0, rfl, fun k hk => by simp at hk⟩
  · refine ⟨_, cap, rfl, fun k hk => ⟨_, rfl, ?_⟩⟩
    have := h.cells (g := g) rfl k (strV (ls.getD k []))
    apply this
    rw [List.getElem?_map, List.getElem?_eq_getElem hk, List.getD_eq_getElem?_getD, List.getElem?_eq_getElem hk]
    rfl

set_option maxHeartbeats 1000000 in
theorem rall_any (s : ByteArray) (w : World) (hs : s.size ≤ 1000000) :
    Calls Tryd.prog 46 #[.string s] w fun e w' => ∃ v, e = .returned (.tuple #[v, .int .i64 ((crcm.allOf s.data.toList).2 : Nat)]) ∧ Strs w' v (crcm.allOf s.data.toList).1 ∧ Below w.heap.size w w' := by
  obtain ⟨i0, hi, hz0, hz1, hz2⟩ := info_parts info_string
  have hl := crcm.size_len s
  have Hl := Lib.hid hl
  clear hl
  go_enter Tryd.func46, Tryd.ntmps46
  go_wp2
  go_loopw [4, 5] (fun v i wr => ∃ (k : Nat) (ls : List (List UInt8)), k ≤ s.size ∧ i = .int .i64 k ∧ ls.length ≤ k ∧ wr.ownsRow w.heap.size 9 1 v ls.length (ls.map strV) ∧
      crcm.allOf s.data.toList = (ls ++ (crcm.allOf (s.data.toList.drop k)).1, k + (crcm.allOf (s.data.toList.drop k)).2) ∧ Below w.heap.size w wr) (fun _ i _ => s.size - (intOf i).toNat)
  case atStart =>
    exact ⟨0, [], Nat.zero_le _, rfl, Nat.le_refl _, World.ownsRow_lit w #[] 0 (Nat.le_refl _) (Nat.zero_le _) rfl, by simp, (Below.refl _ _).alloc (Nat.le_refl _) _⟩
  case round =>
    obtain ⟨k, ls, hk, rfl, hlk, hown, hall, hbel⟩ := hrel
    have HA := Lib.hid hall
    clear hall
    have hsz : (s.extract k s.size).size ≤ maxLen := extract_le _ _ _ (by omega)
    have hdl : (s.data.toList.drop k).length = s.size - k := by rw [List.length_drop, Hl.out]
    have hex : (s.extract k s.size).data.toList = s.data.toList.drop k := by
      rw [Lib.extract_data, List.take_of_length_le (by omega)]
    obtain ⟨t, n, er, hg⟩ : ∃ t n er, crcm.get (s.data.toList.drop k) = (t, n, er) := ⟨_, _, _, rfl⟩
    by_cases he : er = 0
    · subst he
      have h0 : (crcm.get (s.data.toList.drop k)).2.2 = 0 := by rw [hg]
      have hok := crcm.get_ok h0
      have hst := crcm.allOf_step h0
      rw [hg] at hok hst
      simp only [hdl] at hok
      obtain ⟨o1, o2, _⟩ := hok
      have hg2 : crcm.get (s.extract k s.size).data.toList = (t, n, 0) := by rw [hex]; exact hg
      have Hg := Lib.hid hg2
      have hstep : crcm.allOf s.data.toList = ((ls ++ [t]) ++ (crcm.allOf (s.data.toList.drop (k + n))).1, (k + n) + (crcm.allOf (s.data.toList.drop (k + n))).2) := by
        rw [HA.out, hst]
        simp only [List.drop_drop, List.append_assoc, List.cons_append, List.nil_append, Nat.add_assoc]
      have HS := Lib.hid hstep
      clear hstep hst hg2 hg hex hdl h0
      go_wp2_with (first | (go_at_call 75; refine (rget_any _ _ hsz).mono ?_; unfold GetPost; rw [Hg.out]; rintro e w1 ⟨rfl, hb1⟩; have hown1 := owns_below hown hb1) | (at_builtin; refine wpList_append_own _ rfl _ _ 26 rfl w.heap.size 9 i0 (.string .empty) 1 16 Tryd.underlying26 hi hz0 hz1 hz2 rfl (by decide) _ _ _ rfl (hown1.alloc _) ⟨w1.heap.size, 0, none⟩ 1 1 [strV t] rfl rfl ?c1 ?c2 ?c3 ?c4 ?c5 ?_))
      case c1 => exact cell_new1 _ _ _
      case c2 => exact strV_one _
      case c3 => unfold maxLen; omega
      case c4 => omega
      case c5 => have := hbel.size; have := hb1.size; simp; omega
      intro v' w2 hown' hgrow _
      go_wp2
      have hlen : ls.length + 1 = (ls ++ [t]).length := by simp
      have hmap : ls.map strV ++ [strV t] = (ls ++ [t]).map strV := by simp
      have hrow : ∀ j, u4.ownBlock = some j → w.heap.size ≤ j := fun j hj => (hown1.lt j hj).1
      have hb2 : Below w.heap.size w w2 := ((hbel.trans (hb1.mono hbel.size)).alloc (by have := hbel.size; have := hb1.size; omega) _).grown hgrow (by have := hbel.size; have := hb1.size; simp; omega) hrow
      go_roundw
      case rel => exact ⟨k + n, ls ++ [t], by omega, by go_num, by simp; omega, by rw [← hlen, ← hmap]; exact hown', HS.out, hb2⟩
      case measure => simp [intOf]; omega
    · have h0 : (crcm.get (s.data.toList.drop k)).2.2 ≠ 0 := by rw [hg]; exact he
      have hst := crcm.allOf_stop h0
      have hg2 : crcm.get (s.extract k s.size).data.toList = (t, n, er) := by rw [hex]; exact hg
      have Hg := Lib.hid hg2
      have hstep : crcm.allOf s.data.toList = (ls, k) := by
        rw [HA.out, hst]
        simp
      have HS := Lib.hid hstep
      have hb : ((er : Int) != 0) = true := by rw [bne_iff_ne]; omega
      clear hstep hst hg2 hg hex hdl h0
      go_wp2_with (go_at_call 75; refine (rget_any _ _ hsz).mono ?_; unfold GetPost; rw [Hg.out]; rintro e w1 ⟨rfl, hb1⟩; have hown1 := owns_below hown hb1)
      go_ret2
      rw [HS.out]
      exact ⟨_, rfl, strs_of_owns rfl hown1, hbel.trans (hb1.mono hbel.size)⟩
end Go.Proofs.YtdnoeahhidmkbaaDoor
