/- A slice of strings in memory, as a list of lists of bytes: what came in, and what is read of it. -/
import Derived.Test.YtgaamknkigdoeaaRlTellsLaw
import Derived.WalkKit
import Derived.WalkSpells
import Derived.ProofKit
import Derived.SliceStrings
namespace Go.Proofs.Ytgaamknkigdoeaa
open Go Go.RowKit Go.ChangeShapes

/-- the slice v holds these texts -/
def Strs (w : World) (v : Value) (ls : List (List UInt8)) : Prop :=
  ∃ A c, v = .slice A ls.length c ∧ ∀ k, k < ls.length → ∃ ad, A = some ad ∧ w.cell? (ad.add k) = some (.string (crcm.mk (ls.getD k [])))
theorem Strs.below {w w' : World} {v : Value} {ls : List (List UInt8)} (h : Strs w v ls) (hb : Below w.heap.size w w') : Strs w' v ls := by
  obtain ⟨A, c, e, hc⟩ := h
  exact ⟨A, c, e, fun k hk => by obtain ⟨ad, e2, h2⟩ := hc k hk; exact ⟨ad, e2, cell_later hb h2⟩⟩
theorem mk_toL (l : List UInt8) : (crcm.mk l).toList = l := by rw [ByteArray.toList_eq]; rfl
/-- and none of them, nor their number, is beyond what an int can say -/
def Texts (w : World) (v : Value) (ls : List (List UInt8)) : Prop := Strs w v ls ∧ ls.length ≤ maxLen ∧ (∀ t ∈ ls, t.length ≤ maxLen) ∧ ∃ A c, v = .slice A ls.length c ∧ ls.length ≤ c
theorem Texts.below {w w' : World} {v : Value} {ls : List (List UInt8)} (h : Texts w v ls) (hb : Below w.heap.size w w') : Texts w' v ls := ⟨h.1.below hb, h.2⟩

theorem texts_of_reading {H : Type} {enc : TypeId × Value → H} {P : Program} {w : World} {base : Nat} {held : Bool} {t e : TypeId} {a : Option Addr} {len cap : Nat} {d : DataW H} {ps : List MemPlace}
    (ht : P.underlying t = some (.slice e)) (he : P.underlying e = some .string) (hc : P.cellsOf e = 1) (h : DataW.Trod enc P w base (fun _ => true) held t (.slice a len cap) d ps) :
    ∃ ls, Texts w (.slice a len cap) ls := by
  obtain ⟨fuel, hf⟩ := h
  rcases open_strings ht he hc hf with ⟨hcs, _⟩ | ⟨a', len', cap', ss, hcs, _, hl, hm, hz, _, hcell, hws⟩
  · obtain ⟨rfl, rfl, rfl⟩ : a = none ∧ len = 0 ∧ cap = 0 := by simpa [Value.cells] using hcs
    exact ⟨[], ⟨none, 0, rfl, fun k hk => by simp at hk⟩, Nat.zero_le _, (fun t ht => by cases ht), none, 0, rfl, Nat.le_refl _⟩
  · obtain ⟨rfl, rfl, rfl⟩ : a = some a' ∧ len = len' ∧ cap = cap' := by simpa [Value.cells] using hcs
    simp only [if_true] at hz
    have hlen : ((ss.take len).map fun s => s.data.toList).length = len := by rw [List.length_map, List.length_take]; omega
    have hk : ∀ k, k < len → ∃ s, ss[k]? = some s := fun k hk => ⟨ss[k]'(by omega), List.getElem?_eq_getElem (by omega)⟩
    refine ⟨(ss.take len).map fun s => s.data.toList, ⟨some a', cap, by rw [hlen], fun k hkl => ⟨a', rfl, ?_⟩⟩, by rw [hlen]; omega, ?_, some a', cap, by rw [hlen], by rw [hlen]; exact hl⟩
    · rw [hlen] at hkl
      obtain ⟨s, hs⟩ := hk k hkl
      have h1 := hcell k (by omega)
      have e1 : ss.getD k ByteArray.empty = s := by rw [List.getD_eq_getElem?_getD, hs]; rfl
      have e2 : ((ss.take len).map fun s => s.data.toList).getD k [] = s.data.toList := by
        rw [List.getD_eq_getElem?_getD, List.getElem?_map, List.getElem?_take_of_lt hkl, hs]; rfl
      rw [h1, e1, e2, crcm.mk_of]
    · intro t ht
      obtain ⟨s, hs, rfl⟩ := List.mem_map.1 ht
      have := hws s (List.mem_of_mem_take hs)
      rw [crcm.size_len]
      exact this
theorem tsame_len (la lb : List (List UInt8)) (A B : Option Addr) (c d : Nat) (w : World) (hne : la.length ≠ lb.length) :
    Calls Try.prog 24 #[.slice A la.length c, .slice B lb.length d] w fun e w' => e = .returned (.bool (decide (la = lb))) ∧ ∃ q, w.drewN q = w' := by
  have hd : decide (la = lb) = false := by rw [decide_eq_false_iff_not]; intro e; exact hne (by rw [e])
  rw [hd]
  clear hd
  have hne' : ((la.length : Int) != (lb.length : Int)) = true := by rw [bne_iff_ne]; omega
  go_enter Try.func24, Try.ntmps24
  go_wp2
  go_ret
  exact ⟨rfl, 0, rfl⟩

set_option maxHeartbeats 1000000 in
theorem tsame_any (la lb : List (List UInt8)) (A B : Option Addr) (c d n : Nat) (w : World) (hn : n ≤ maxLen) (h1 : la.length = n) (h2 : lb.length = n)
    (hA : ∀ k, k < n → ∃ ad, A = some ad ∧ w.cell? (ad.add k) = some (.string (crcm.mk (la.getD k [])))) (hB : ∀ k, k < n → ∃ ad, B = some ad ∧ w.cell? (ad.add k) = some (.string (crcm.mk (lb.getD k [])))) :
    Calls Try.prog 24 #[.slice A n c, .slice B n d] w fun e w' => e = .returned (.bool (decide (la = lb))) ∧ ∃ q, w.drewN q = w' := by
  unfold maxLen at hn
  have H1 := Lib.hid h1
  have H2 := Lib.hid h2
  clear h1 h2
  have hne' : ((n : Int) != (n : Int)) = false := by simp
  go_enter Try.func24, Try.ntmps24
  go_wp2
  go_loopw [5] (fun i wr => ∃ k q : Nat, k ≤ n ∧ i = .int .i64 k ∧ w.drewN q = wr ∧ la.take k = lb.take k) (fun i _ => n - (intOf i).toNat)
  case atStart => exact ⟨0, 0, Nat.zero_le _, rfl, rfl, rfl⟩
  case round =>
    obtain ⟨k, q, hk, rfl, rfl, hle⟩ := hrel
    have HL := Lib.hid hle
    clear hle
    by_cases hlt : k < n
    · obtain ⟨a1, rfl, c1⟩ := hA k hlt
      obtain ⟨b1, rfl, c2⟩ := hB k hlt
      clear hA hB
      have ka : la[k]? = some (la.getD k []) := by rw [List.getD_eq_getElem?_getD, List.getElem?_eq_getElem (by rw [H1.out]; exact hlt)]; rfl
      have kb : lb[k]? = some (lb.getD k []) := by rw [List.getD_eq_getElem?_getD, List.getElem?_eq_getElem (by rw [H2.out]; exact hlt)]; rfl
      have hta : la.take (k + 1) = la.take k ++ [la.getD k []] := by rw [List.take_add_one, ka]; rfl
      have htb : lb.take (k + 1) = lb.take k ++ [lb.getD k []] := by rw [List.take_add_one, kb]; rfl
      obtain ⟨x, hx⟩ : ∃ x, la.getD k [] = x := ⟨_, rfl⟩
      obtain ⟨y, hy⟩ : ∃ x, lb.getD k [] = x := ⟨_, rfl⟩
      rw [hx] at hta ka c1
      rw [hy] at htb kb c2
      have HTA := Lib.hid hta
      have HTB := Lib.hid htb
      have HKA := Lib.hid ka
      have HKB := Lib.hid kb
      clear hta htb ka kb hx hy
      have hml := mk_toL
      by_cases hxy : x = y
      · subst hxy
        have hb : (x == x) = true := by simp
        have hi : (k : Int) < (n : Int) := by omega
        go_wp2
        go_quiet (fail)
        go_wp2
        go_roundw
        case rel => exact ⟨k + 1, _, by omega, by go_num, rfl, by rw [HTA.out, HTB.out, HL.out]⟩
        case measure => simp [intOf]; omega
      · have hb : (x == y) = false := by rw [beq_eq_false_iff_ne]; exact hxy
        have hd : decide (la = lb) = false := by
          rw [decide_eq_false_iff_not]; intro e; have := HKA.out; rw [e, HKB.out] at this; exact hxy (Option.some.inj this).symm
        have HD := Lib.hid hd
        clear hd
        go_wp2
        go_quiet (fail)
        go_wp2
        go_ret
        exact ⟨by rw [HD.out]; rfl, _, by first | rfl | exact (World.drewN_drewN _ _ _).symm⟩
    · clear hA hB
      have hd : decide (la = lb) = true := by
        rw [decide_eq_true_iff]
        have := HL.out
        rwa [List.take_of_length_le (by rw [H1.out]; omega), List.take_of_length_le (by rw [H2.out]; omega)] at this
      have HD := Lib.hid hd
      clear hd
      go_wp2
      go_ret
      exact ⟨by rw [HD.out]; rfl, _, by first | rfl | exact (World.drewN_drewN _ _ _).symm⟩

theorem same_texts {w : World} {a b : Value} {la lb : List (List UInt8)} (ha : Strs w a la) (hb : Strs w b lb) (hl : la.length ≤ maxLen) :
    Calls Try.prog 24 #[a, b] w fun e w' => e = .returned (.bool (decide (la = lb))) ∧ ∃ q, w.drewN q = w' := by
  obtain ⟨A, c, rfl, hA⟩ := ha
  obtain ⟨B, d, rfl, hB⟩ := hb
  by_cases h : la.length = lb.length
  · rw [← h] at hB ⊢
    exact tsame_any la lb A B c d la.length w hl rfl h.symm hA hB
  · exact tsame_len la lb A B c d w h

theorem info_string : (Try.prog.info? 9).map (fun i => (i.zero, i.size, i.bytes)) = some (some (.string .empty), 1, 16) := by kernel_rfl
def strV (l : List UInt8) : Value := .string (crcm.mk l)

theorem owns_below {a w : World} {base : Nat} {e : TypeId} {size n : Nat} {v : Value} {xs : List Value} (h : a.ownsRow base e size v n xs) (hb : Below a.heap.size a w) : w.ownsRow base e size v n xs :=
  h.kept (grown_of_below hb none) (by cases v.ownBlock with | none => exact .inl rfl | some k => exact .inr (by simp))
theorem cell_new1 (w : World) (v : Value) (e : TypeId) : ∀ j u, [v][j]? = some u → (w.alloc (.cells #[v] e)).cell? ((⟨w.heap.size, 0, none⟩ : Addr).add j) = some u := by
  intro j u hj
  match j, hj with
  | 0, hj => simp at hj; subst hj; simp [Addr.add]
theorem strV_one (l : List UInt8) : ∀ u ∈ [strV l], u.oneCell' = true := by intro u hu; simp at hu; subst hu; rfl
theorem strs_of_owns {w : World} {base : Nat} {e : TypeId} {v : Value} {n : Nat} {ls : List (List UInt8)} (hn : n = ls.length) (h : w.ownsRow base e 1 v n (ls.map strV)) : Strs w v ls := by
  subst hn
  rcases h.2 with ⟨rfl, h0⟩ | ⟨g, cap, cur, rfl, _⟩
  · have : ls = [] := by simpa using h0
    subst this
    exact ⟨none, 0, rfl, fun k hk => by simp at hk⟩
  · refine ⟨_, cap, rfl, fun k hk => ⟨_, rfl, ?_⟩⟩
    have := h.cells (g := g) rfl k (strV (ls.getD k []))
    apply this
    rw [List.getElem?_map, List.getElem?_eq_getElem hk, List.getD_eq_getElem?_getD, List.getElem?_eq_getElem hk]
    rfl

end Go.Proofs.Ytgaamknkigdoeaa
