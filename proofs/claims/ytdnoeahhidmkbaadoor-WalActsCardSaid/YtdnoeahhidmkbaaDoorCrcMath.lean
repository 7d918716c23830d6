/- The plain mathematics of the sums: four bits at a time come to what eight single steps come to; a step loses nothing. No program. -/
import Init.Data.BitVec.Lemmas
namespace Go.Proofs.YtdnoeahhidmkbaaDoor.crcm

/-- one bit -/
def bit1 (n : Nat) : Nat := if n % 2 = 1 then n / 2 ^^^ 3988292384 else n / 2
def bit4 (n : Nat) : Nat := bit1 (bit1 (bit1 (bit1 n)))
def tab : List Nat := [0, 498536548, 997073096, 651767980, 1994146192, 1802195444, 1303535960, 1342533948, 3988292384, 4027552580, 3604390888, 3412177804, 2607071920, 2262029012, 2685067896, 3183342108]
def nib (n : Nat) : Nat := n / 16 ^^^ tab.getD (n % 16) 0
/-- so many bits -/
def bits1 : Nat → Nat → Nat
  | 0, n => n
  | k + 1, n => bit1 (bits1 k n)
def byte1 (n : Nat) (b : UInt8) : Nat := bit4 (bit4 (n ^^^ b.toNat))
def loop (n : Nat) (l : List UInt8) : Nat := l.foldl byte1 n
/-- what More and the document's More come to -/
def more (n : Nat) (l : List UInt8) : Nat := 4294967295 - loop (4294967295 - n) l
def sum (l : List UInt8) : Nat := more 0 l

theorem xor_lt {a b : Nat} (ha : a < 4294967296) (hb : b < 4294967296) : a ^^^ b < 4294967296 := Nat.xor_lt_two_pow (n := 32) ha hb
theorem bit1_lt {n : Nat} (h : n < 4294967296) : bit1 n < 4294967296 := by
  unfold bit1
  split
  · exact xor_lt (by omega) (by decide)
  · omega
theorem bit4_lt {n : Nat} (h : n < 4294967296) : bit4 n < 4294967296 := bit1_lt (bit1_lt (bit1_lt (bit1_lt h)))
theorem u8_lt (b : UInt8) : b.toNat < 4294967296 := Nat.lt_trans b.toNat_lt (by decide)
theorem byte1_lt {n : Nat} (h : n < 4294967296) (b : UInt8) : byte1 n b < 4294967296 := bit4_lt (bit4_lt (xor_lt h (u8_lt b)))
theorem loop_lt {n : Nat} (h : n < 4294967296) (l : List UInt8) : loop n l < 4294967296 := by
  induction l generalizing n with
  | nil => exact h
  | cons b r ih => exact ih (byte1_lt h b)
theorem loop_append (n : Nat) (l r : List UInt8) : loop n (l ++ r) = loop (loop n l) r := List.foldl_append
theorem loop_snoc (n : Nat) (l : List UInt8) (b : UInt8) : loop n (l ++ [b]) = byte1 (loop n l) b := by rw [loop_append]; rfl
theorem more_lt (n : Nat) (l : List UInt8) : more n l < 4294967296 := by unfold more; omega
theorem more_append {n : Nat} (l r : List UInt8) : more (more n l) r = more n (l ++ r) := by
  unfold more
  have h := loop_lt (n := 4294967295 - n) (by omega) l
  rw [loop_append, show 4294967295 - (4294967295 - loop (4294967295 - n) l) = loop (4294967295 - n) l from by omega]
theorem more_sum (l r : List UInt8) : more (sum l) r = sum (l ++ r) := more_append l r
theorem more_nil {n : Nat} (h : n < 4294967296) : more n [] = n := by unfold more loop; simp only [List.foldl_nil]; omega
theorem sum_nil : sum [] = 0 := rfl

/- linearity: bit by bit -/
theorem bit1_xor (a b : Nat) : bit1 (a ^^^ b) = bit1 a ^^^ bit1 b := by
  have hp : (a ^^^ b) % 2 = (a % 2 + b % 2) % 2 := by
    have h : (a ^^^ b) % 2 = a % 2 ^^^ b % 2 := Nat.xor_mod_two_pow (n := 1)
    rw [h]
    rcases Nat.mod_two_eq_zero_or_one a with ha | ha <;> rcases Nat.mod_two_eq_zero_or_one b with hb | hb <;> rw [ha, hb] <;> rfl
  have hd : (a ^^^ b) / 2 = a / 2 ^^^ b / 2 := Nat.xor_div_two
  unfold bit1
  rw [hp, hd]
  rcases Nat.mod_two_eq_zero_or_one a with ha | ha <;> rcases Nat.mod_two_eq_zero_or_one b with hb | hb <;> simp only [ha, hb, Nat.reduceAdd, Nat.reduceMod, Nat.reduceEqDiff, if_true, if_false]
  · rw [Nat.xor_assoc]
  · rw [Nat.xor_assoc, Nat.xor_comm (b / 2), ← Nat.xor_assoc]
  · rw [Nat.xor_assoc (a / 2) 3988292384, ← Nat.xor_assoc 3988292384, Nat.xor_comm 3988292384 (b / 2), Nat.xor_assoc (b / 2), Nat.xor_self, Nat.xor_zero]
theorem bit4_xor (a b : Nat) : bit4 (a ^^^ b) = bit4 a ^^^ bit4 b := by simp only [bit4, bit1_xor]
theorem bit1_even (n : Nat) : bit1 (2 * n) = n := by unfold bit1; rw [if_neg (by omega)]; omega
theorem bit4_16 (n : Nat) : bit4 (16 * n) = n := by
  unfold bit4
  rw [show 16 * n = 2 * (2 * (2 * (2 * n))) from by omega]
  simp only [bit1_even]
theorem tab_ok : ∀ r, r < 16 → tab.getD r 0 = bit4 r := by decide
theorem split16 (n : Nat) : 16 * (n / 16) ^^^ n % 16 = n := by
  have h : n % 16 < 2 ^ 4 := by omega
  have := Nat.two_pow_add_eq_or_of_lt h (n / 16)
  apply Nat.eq_of_testBit_eq
  intro i
  rw [Nat.testBit_xor, show (16 : Nat) * (n / 16) = 2 ^ 4 * (n / 16) from rfl, Nat.testBit_two_pow_mul, show n % 16 = n % 2 ^ 4 from rfl, Nat.testBit_mod_two_pow]
  by_cases hi : i < 4
  · have : ¬ 4 ≤ i := by omega
    simp [hi, this]
  · have h4 : 4 ≤ i := by omega
    simp only [hi, h4, decide_true, decide_false, Bool.true_and, Bool.false_and, Bool.xor_false]
    rw [show n / 16 = n / 2 ^ 4 from rfl, Nat.testBit_div_two_pow]
    congr 1
    omega
theorem nib_eq (n : Nat) : nib n = bit4 n := by
  unfold nib
  rw [tab_ok _ (by omega)]
  conv => rhs; rw [← split16 n, bit4_xor, bit4_16]
theorem nib_lt {n : Nat} (h : n < 4294967296) : nib n < 4294967296 := by rw [nib_eq]; exact bit4_lt h
theorem byte1_bits (n : Nat) (b : UInt8) : byte1 n b = bits1 8 (n ^^^ b.toNat) := rfl
theorem byte1_nib (n : Nat) (b : UInt8) : byte1 n b = nib (nib (n ^^^ b.toNat)) := by rw [nib_eq, nib_eq]; rfl

/- nothing is lost -/
theorem bit1_top {n : Nat} (h : n < 4294967296) : (bit1 n).testBit 31 = decide (n % 2 = 1) := by
  unfold bit1
  have h0 : (n / 2).testBit 31 = false := Nat.testBit_lt_two_pow (by omega)
  by_cases hp : n % 2 = 1
  · rw [if_pos hp, Nat.testBit_xor, h0]
    simp [hp]
    decide
  · rw [if_neg hp, h0]
    simp [hp]
theorem xor_cancel {a b c : Nat} (h : a ^^^ c = b ^^^ c) : a = b := by
  have := congrArg (· ^^^ c) h
  simpa [Nat.xor_assoc] using this
theorem xor_cancel_left {a b c : Nat} (h : c ^^^ a = c ^^^ b) : a = b := by
  rw [Nat.xor_comm c a, Nat.xor_comm c b] at h
  exact xor_cancel h
theorem bit1_inj {a b : Nat} (ha : a < 4294967296) (hb : b < 4294967296) (h : bit1 a = bit1 b) : a = b := by
  have h1 := bit1_top ha
  have h2 := bit1_top hb
  rw [h, h2] at h1
  have hp : (b % 2 = 1) ↔ (a % 2 = 1) := by simpa using h1
  unfold bit1 at h
  by_cases hq : a % 2 = 1
  · rw [if_pos hq, if_pos (hp.2 hq)] at h
    have := xor_cancel h
    have := hp.2 hq
    omega
  · have hq' : ¬ b % 2 = 1 := fun e => hq (hp.1 e)
    rw [if_neg hq, if_neg hq'] at h
    omega
theorem bit4_inj {a b : Nat} (ha : a < 4294967296) (hb : b < 4294967296) (h : bit4 a = bit4 b) : a = b :=
  bit1_inj ha hb (bit1_inj (bit1_lt ha) (bit1_lt hb) (bit1_inj (bit1_lt (bit1_lt ha)) (bit1_lt (bit1_lt hb)) (bit1_inj (bit1_lt (bit1_lt (bit1_lt ha))) (bit1_lt (bit1_lt (bit1_lt hb))) h)))
theorem byte1_inj {a b : Nat} {x y : UInt8} (ha : a < 4294967296) (hb : b < 4294967296) (h : byte1 a x = byte1 b y) : a ^^^ x.toNat = b ^^^ y.toNat :=
  bit4_inj (xor_lt ha (u8_lt x)) (xor_lt hb (u8_lt y)) (bit4_inj (bit4_lt (xor_lt ha (u8_lt x))) (bit4_lt (xor_lt hb (u8_lt y))) h)
theorem loop_inj {a b : Nat} (ha : a < 4294967296) (hb : b < 4294967296) (l : List UInt8) (h : loop a l = loop b l) : a = b := by
  induction l generalizing a b with
  | nil => exact h
  | cons x r ih => exact xor_cancel (byte1_inj ha hb (ih (byte1_lt ha x) (byte1_lt hb x) h))
/-- one byte that is another is seen -/
theorem sum_other (p r : List UInt8) {x y : UInt8} (hxy : x ≠ y) : sum (p ++ x :: r) ≠ sum (p ++ y :: r) := by
  intro h
  unfold sum more at h
  rw [loop_append, loop_append] at h
  have h0 := loop_lt (n := 4294967295 - 0) (by omega) p
  have hx : loop (loop (4294967295 - 0) p) (x :: r) < 4294967296 := loop_lt h0 _
  have hy : loop (loop (4294967295 - 0) p) (y :: r) < 4294967296 := loop_lt h0 _
  have h1 : loop (loop (4294967295 - 0) p) (x :: r) = loop (loop (4294967295 - 0) p) (y :: r) := by omega
  have h2 := loop_inj (byte1_lt h0 x) (byte1_lt h0 y) r h1
  have h3 := xor_cancel_left (byte1_inj h0 h0 h2)
  exact hxy (UInt8.toNat_inj.1 h3)
end Go.Proofs.YtdnoeahhidmkbaaDoor.crcm
