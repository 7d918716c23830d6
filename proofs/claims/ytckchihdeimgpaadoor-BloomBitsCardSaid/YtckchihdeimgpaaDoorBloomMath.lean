/- The plain mathematics of the filters: places, bits set and asked, how many are set. No program. -/
import Derived.Test.YtckchihdeimgpaaDoorCrcText
namespace Go.Proofs.YtckchihdeimgpaaDoor.blm
open Go.Proofs.YtckchihdeimgpaaDoor

def place (name : List UInt8) (many i : Nat) : Nat := (crcm.sum name + i * crcm.sum (name ++ [1])) % 4294967296 % many
def places (name : List UInt8) (many : Nat) : List Nat := [place name many 0, place name many 1, place name many 2, place name many 3]
theorem place_lt {name : List UInt8} {many i : Nat} (h : 0 < many) : place name many i < many := Nat.mod_lt _ h
theorem places_lt {name : List UInt8} {many : Nat} (h : 0 < many) : ∀ i ∈ places name many, i < many := by
  intro i hi
  simp only [places, List.mem_cons, List.not_mem_nil, or_false] at hi
  rcases hi with rfl | rfl | rfl | rfl <;> exact place_lt h

def getB (fl : List UInt8) (i : Nat) : Bool := (fl.getD (i / 8) 0).toNat.testBit (i % 8)
def setB (fl : List UInt8) (i : Nat) : List UInt8 := fl.set (i / 8) (UInt8.ofNat ((fl.getD (i / 8) 0).toNat ||| 2 ^ (i % 8)))
theorem setB_len (fl : List UInt8) (i : Nat) : (setB fl i).length = fl.length := List.length_set
theorem pow8 (q : Nat) (h : q < 8) : 2 ^ q < 256 := Nat.lt_of_lt_of_le (Nat.pow_lt_pow_right (by decide) h) (by decide)
theorem or_byte (b : UInt8) (q : Nat) (h : q < 8) : (UInt8.ofNat (b.toNat ||| 2 ^ q)).toNat = b.toNat ||| 2 ^ q := by
  rw [UInt8.toNat_ofNat']
  exact Nat.mod_eq_of_lt (Nat.or_lt_two_pow (n := 8) b.toNat_lt (pow8 q h))
theorem getB_setB {fl : List UInt8} {i : Nat} (h : i < 8 * fl.length) (k : Nat) : getB (setB fl i) k = (getB fl k || decide (k = i)) := by
  unfold getB setB
  by_cases e : k / 8 = i / 8
  · rw [e, List.getD_eq_getElem?_getD, List.getElem?_set_self (by omega)]
    simp only [Option.getD_some]
    rw [or_byte _ _ (by omega), Nat.testBit_or, Nat.testBit_two_pow]
    by_cases e2 : k = i
    · subst e2; simp
    · have : ¬ i % 8 = k % 8 := by omega
      simp [e2, this]
  · rw [List.getD_eq_getElem?_getD, List.getElem?_set_ne (by omega), ← List.getD_eq_getElem?_getD]
    have : ¬ k = i := by rintro rfl; exact e rfl
    simp [this]
theorem fold_len (l : List Nat) (fl : List UInt8) : (l.foldl setB fl).length = fl.length := by
  induction l generalizing fl with
  | nil => rfl
  | cons i r ih => rw [List.foldl_cons, ih, setB_len]
theorem getB_fold (l : List Nat) (fl : List UInt8) (h : ∀ i ∈ l, i < 8 * fl.length) (k : Nat) : getB (l.foldl setB fl) k = (getB fl k || decide (k ∈ l)) := by
  induction l generalizing fl with
  | nil => simp
  | cons i r ih =>
    rw [List.foldl_cons, ih _ (fun x hx => by rw [setB_len]; exact h x (by simp [hx])), getB_setB (h i (by simp))]
    by_cases e : k = i
    · simp [e]
    · simp [e]
def addName (n : Nat) (fl : List UInt8) (name : List UInt8) : List UInt8 := (places name (8 * n)).foldl setB fl
theorem addName_len (n : Nat) (fl : List UInt8) (name : List UInt8) : (addName n fl name).length = fl.length := fold_len _ _
def filt (n : Nat) (names : List (List UInt8)) : List UInt8 := names.foldl (addName n) (List.replicate n 0)
theorem filtFrom_len (n : Nat) (names : List (List UInt8)) (fl : List UInt8) : (names.foldl (addName n) fl).length = fl.length := by
  induction names generalizing fl with
  | nil => rfl
  | cons a r ih => rw [List.foldl_cons, ih, addName_len]
theorem filt_len (n : Nat) (names : List (List UInt8)) : (filt n names).length = n := by unfold filt; rw [filtFrom_len, List.length_replicate]
theorem filt_snoc (n : Nat) (names : List (List UInt8)) (a : List UInt8) : filt n (names ++ [a]) = addName n (filt n names) a := by unfold filt; rw [List.foldl_append]; rfl
theorem getB_zero (n k : Nat) : getB (List.replicate n 0) k = false := by
  unfold getB
  rw [List.getD_eq_getElem?_getD, List.getElem?_replicate]
  split <;> simp
theorem getB_from (n : Nat) (hn : 0 < n) (names : List (List UInt8)) (fl : List UInt8) (hl : fl.length = n) (k : Nat) : getB (names.foldl (addName n) fl) k = (getB fl k || decide (∃ s ∈ names, k ∈ places s (8 * n))) := by
  induction names generalizing fl with
  | nil => simp
  | cons a r ih =>
    rw [List.foldl_cons, ih _ (by rw [addName_len, hl])]
    unfold addName
    rw [getB_fold _ _ (fun i hi => by rw [hl]; exact places_lt (by omega) i hi)]
    simp only [List.mem_cons, exists_eq_or_imp]
    rw [Bool.or_assoc]
    congr 1
    rw [Bool.eq_iff_iff]
    simp
theorem getB_filt (n : Nat) (hn : 0 < n) (names : List (List UInt8)) (k : Nat) : getB (filt n names) k = decide (∃ s ∈ names, k ∈ places s (8 * n)) := by
  unfold filt
  rw [getB_from n hn names _ (by simp), getB_zero, Bool.false_or]
/-- two filters with the same bits are one -/
theorem filter_ext {a b : List UInt8} (hl : a.length = b.length) (h : ∀ k, k < 8 * a.length → getB a k = getB b k) : a = b := by
  apply List.ext_getElem hl
  intro j h1 h2
  apply UInt8.toNat_inj.1
  apply Nat.eq_of_testBit_eq
  intro q
  by_cases hq : q < 8
  · have := h (8 * j + q) (by omega)
    unfold getB at this
    rw [show (8 * j + q) / 8 = j from by omega, show (8 * j + q) % 8 = q from by omega] at this
    rwa [List.getD_eq_getElem?_getD, List.getD_eq_getElem?_getD, List.getElem?_eq_getElem h1, List.getElem?_eq_getElem h2] at this
  · have hp : 256 ≤ 2 ^ q := Nat.le_trans (by decide : 256 ≤ 2 ^ 8) (Nat.pow_le_pow_right (by decide) (by omega))
    rw [Nat.testBit_lt_two_pow (Nat.lt_of_lt_of_le a[j].toNat_lt hp), Nat.testBit_lt_two_pow (Nat.lt_of_lt_of_le b[j].toNat_lt hp)]
theorem filt_ext (n : Nat) (hn : 0 < n) {a b : List (List UInt8)} (h : ∀ s, s ∈ a ↔ s ∈ b) : filt n a = filt n b := by
  apply filter_ext (by rw [filt_len, filt_len])
  intro k _
  rw [getB_filt n hn, getB_filt n hn]
  simp [h]

/- how many bytes -/
def fsize (k each : Nat) : Nat := max ((k * each + 7) / 8) 8
theorem fsize_pos (k each : Nat) : 0 < fsize k each := by unfold fsize; omega
def make (names : List (List UInt8)) (each : Int) : List UInt8 × Nat :=
  if each < 1 ∨ 64 < each then ([], 1) else if 2000 < names.length then ([], 71) else (filt (fsize names.length each.toNat) names, 0)
def may (fl name : List UInt8) : Bool := fl.isEmpty || (places name (8 * fl.length)).all (getB fl)
theorem may_filt (n : Nat) (hn : 0 < n) (names : List (List UInt8)) (s : List UInt8) (h : s ∈ names) : may (filt n names) s = true := by
  unfold may
  rw [filt_len]
  have : (places s (8 * n)).all (getB (filt n names)) = true := by
    rw [List.all_eq_true]
    intro i hi
    rw [getB_filt n hn, decide_eq_true_iff]
    exact ⟨s, h, hi⟩
  rw [this, Bool.or_true]

/- how many are set -/
def pop (b : UInt8) : Nat := (b.toNat.testBit 0).toNat + (b.toNat.testBit 1).toNat + (b.toNat.testBit 2).toNat + (b.toNat.testBit 3).toNat + (b.toNat.testBit 4).toNat + (b.toNat.testBit 5).toNat + (b.toNat.testBit 6).toNat + (b.toNat.testBit 7).toNat
theorem pop_le (b : UInt8) : pop b ≤ 8 := by
  unfold pop
  have h : ∀ c : Bool, c.toNat ≤ 1 := by decide
  have := h (b.toNat.testBit 0)
  have := h (b.toNat.testBit 1)
  have := h (b.toNat.testBit 2)
  have := h (b.toNat.testBit 3)
  have := h (b.toNat.testBit 4)
  have := h (b.toNat.testBit 5)
  have := h (b.toNat.testBit 6)
  have := h (b.toNat.testBit 7)
  omega
def full (fl : List UInt8) : Nat := (fl.map pop).foldl (· + ·) 0
theorem full_snoc (fl : List UInt8) (b : UInt8) : full (fl ++ [b]) = full fl + pop b := by simp [full]
theorem full_take (fl : List UInt8) (k : Nat) (h : k < fl.length) : full (fl.take (k + 1)) = full (fl.take k) + pop (fl.getD k 0) := by
  rw [List.take_succ_eq_append_getElem h, full_snoc, List.getD_eq_getElem?_getD, List.getElem?_eq_getElem h]
  rfl
theorem full_le (fl : List UInt8) : full fl ≤ 8 * fl.length := by
  suffices ∀ (l : List UInt8) (a : Nat), (l.map pop).foldl (· + ·) a ≤ a + 8 * l.length by have := this fl 0; unfold full; omega
  intro l
  induction l with
  | nil => intro a; simp
  | cons b r ih =>
    intro a
    rw [List.map_cons, List.foldl_cons, List.length_cons]
    have := ih (a + pop b)
    have := pop_le b
    omega
def cnt (fl : List UInt8) : Nat → Nat
  | 0 => 0
  | m + 1 => cnt fl m + (getB fl m).toNat
theorem cnt_le (fl : List UInt8) (m : Nat) : cnt fl m ≤ m := by
  induction m with
  | zero => exact Nat.le_refl _
  | succ m ih =>
    unfold cnt
    have : (getB fl m).toNat ≤ 1 := by cases getB fl m <;> decide
    omega
theorem cnt_eight (fl : List UInt8) (j : Nat) (h : j ≤ fl.length) : cnt fl (8 * j) = full (fl.take j) := by
  induction j with
  | zero => rfl
  | succ j ih =>
    have hb : ∀ q, q < 8 → getB fl (8 * j + q) = (fl.getD j 0).toNat.testBit q := by
      intro q hq
      unfold getB
      rw [show (8 * j + q) / 8 = j from by omega, show (8 * j + q) % 8 = q from by omega]
    rw [full_take fl j (by omega), ← ih (by omega), show 8 * (j + 1) = 8 * j + 7 + 1 from by omega]
    have e : ∀ m, cnt fl (m + 1) = cnt fl m + (getB fl m).toNat := fun m => rfl
    rw [e, e (8 * j + 6), e (8 * j + 5), e (8 * j + 4), e (8 * j + 3), e (8 * j + 2), e (8 * j + 1), e (8 * j)]
    rw [hb 7 (by decide), hb 6 (by decide), hb 5 (by decide), hb 4 (by decide), hb 3 (by decide), hb 2 (by decide), hb 1 (by decide)]
    have h0 := hb 0 (by decide)
    rw [Nat.add_zero] at h0
    rw [h0]
    unfold pop
    omega
theorem cnt_full (fl : List UInt8) : cnt fl (8 * fl.length) = full fl := by rw [cnt_eight fl _ (Nat.le_refl _), List.take_of_length_le (Nat.le_refl _)]

/- the document's bytes, bit by bit from the top -/
def top (inn : Nat → Bool) (j : Nat) : Nat → Nat
  | 0 => 0
  | r + 1 => top inn j r * 2 + (inn (8 * j + 7 - r)).toNat
theorem top_lt (inn : Nat → Bool) (j r : Nat) : top inn j r < 2 ^ r := by
  induction r with
  | zero => exact Nat.one_pos
  | succ r ih =>
    unfold top
    rw [Nat.pow_succ]
    have : (inn (8 * j + 7 - r)).toNat ≤ 1 := by cases inn (8 * j + 7 - r) <;> decide
    omega
theorem top_bit (inn : Nat → Bool) (j r : Nat) (hr : r ≤ 8) (q : Nat) (hq : q < r) : (top inn j r).testBit q = inn (8 * j + (8 - r) + q) := by
  induction r generalizing q with
  | zero => omega
  | succ r ih =>
    unfold top
    cases q with
    | zero =>
      rw [Nat.testBit_zero]
      have e : 8 * j + (8 - (r + 1)) + 0 = 8 * j + 7 - r := by omega
      rw [e]
      cases inn (8 * j + 7 - r) <;> simp
    | succ q =>
      rw [Nat.testBit_succ]
      have e2 : (top inn j r * 2 + (inn (8 * j + 7 - r)).toNat) / 2 = top inn j r := by
        have : (inn (8 * j + 7 - r)).toNat ≤ 1 := by cases inn (8 * j + 7 - r) <;> decide
        omega
      rw [e2, ih (by omega) q (by omega)]
      congr 1
      omega
/-- which bit of a byte is the m-th from the top of all -/
def done (m j : Nat) : Nat := min 8 (8 * j + 8 - m)
theorem top_filter (inn : Nat → Bool) (fl : List UInt8) (h : ∀ k, k < 8 * fl.length → getB fl k = inn k) (j : Nat) (hj : j < fl.length) : top inn j 8 = (fl.getD j 0).toNat := by
  apply Nat.eq_of_testBit_eq
  intro q
  by_cases hq : q < 8
  · rw [top_bit inn j 8 (by decide) q hq, Nat.sub_self, Nat.add_zero, ← h _ (by omega)]
    unfold getB
    rw [show (8 * j + q) / 8 = j from by omega, show (8 * j + q) % 8 = q from by omega]
  · have hp : 256 ≤ 2 ^ q := Nat.le_trans (by decide : 256 ≤ 2 ^ 8) (Nat.pow_le_pow_right (by decide) (by omega))
    rw [Nat.testBit_lt_two_pow (Nat.lt_of_lt_of_le (top_lt inn j 8) hp), Nat.testBit_lt_two_pow (Nat.lt_of_lt_of_le (fl.getD j 0).toNat_lt hp)]
end Go.Proofs.YtckchihdeimgpaaDoor.blm
