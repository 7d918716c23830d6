/- BloomMay, BloomArgs, BloomMakes walked: whatever comes in, each returns true. -/
import Derived.Test.YtckchihdeimgpaaDoorBloomShown
namespace Go.Proofs.YtckchihdeimgpaaDoor
open Go Go.RowKit

theorem bmay_long1 (s name : ByteArray) (w : World) (hs : s.size ≤ maxLen) (h : 300 < s.size) (ht : TabAt w) :
    Calls Tryd.prog 4 #[.string s, .string name] w fun e w' => e = .returned (.bool true) ∧ Below w.heap.size w w' := by
  unfold maxLen at hs
  go_enter Tryd.func4, Tryd.ntmps4
  go_wp2_with (go_at_call 10; refine (shown_any _ ht).mono ?_; rintro e w1 ⟨rfl, hb1⟩)
  go_ret
  exact ⟨rfl, hb1⟩
theorem bmay_long2 (s name : ByteArray) (w : World) (hn : name.size ≤ maxLen) (hs : s.size ≤ 300) (h : 200 < name.size) (ht : TabAt w) :
    Calls Tryd.prog 4 #[.string s, .string name] w fun e w' => e = .returned (.bool true) ∧ Below w.heap.size w w' := by
  unfold maxLen at hn
  go_enter Tryd.func4, Tryd.ntmps4
  go_wp2_with (go_at_call 10; refine (shown_any _ ht).mono ?_; rintro e w1 ⟨rfl, hb1⟩)
  go_ret
  exact ⟨rfl, hb1⟩
set_option maxHeartbeats 1000000 in
theorem bmay_short (s name : ByteArray) (w : World) (hs : s.size ≤ 300) (h : name.size ≤ 200) (ht : TabAt w) :
    Calls Tryd.prog 4 #[.string s, .string name] w fun e w' => e = .returned (.bool true) ∧ Below w.heap.size w w' := by
  go_enter Tryd.func4, Tryd.ntmps4
  go_wp2_with fail
  refine (shown_any _ ht).mono ?_
  rintro e w1 ⟨rfl, hb1⟩
  have ht1 := ht.below hb1 ht.1
  go_wp2_with fail
  refine (may_any s name w1 (by omega) (by omega) ht1).mono ?_
  rintro e w2 ⟨rfl, hb2⟩
  have h12 := hb1.trans (hb2.mono hb1.size)
  clear hb1 hb2
  go_wp2_with fail
  refine (rmay_any s name w2 (by omega) (by omega)).mono ?_
  rintro e w3 ⟨rfl, hb3⟩
  have h13 := h12.trans (hb3.mono h12.size)
  clear h12 hb3
  obtain ⟨b, hb⟩ : ∃ b, blm.may s.data.toList name.data.toList = b := ⟨_, rfl⟩
  rw [hb]
  go_wp2_with fail
  go_ret
  exact ⟨by cases b <;> rfl, h13⟩
theorem bmay_law (s name : ByteArray) (w : World) (hs : s.size ≤ maxLen) (hn : name.size ≤ maxLen) (ht : TabAt w) :
    Calls Tryd.prog 4 #[.string s, .string name] w fun e w' => e = .returned (.bool true) ∧ Below w.heap.size w w' := by
  by_cases h : s.size ≤ 300
  · by_cases h2 : name.size ≤ 200
    · exact bmay_short s name w h h2 ht
    · exact bmay_long2 s name w hn h (by omega) ht
  · exact bmay_long1 s name w hs (by omega) ht

theorem make_x (b : Int) (h : 1 ≤ b) (h2 : b ≤ 64) : blm.make [[120]] b = (blm.filt 8 [[120]], 0) := by
  unfold blm.make
  rw [if_neg (by omega), if_neg (by simp)]
  have : blm.fsize ([[120]] : List (List UInt8)).length b.toNat = 8 := by unfold blm.fsize; simp; omega
  rw [this]
theorem make_x_bad (b : Int) (h : b < 1 ∨ 64 < b) : blm.make [[120]] b = ([], 1) := by unfold blm.make; rw [if_pos h]
theorem below_one (w : World) (v : Value) (t : TypeId) : Below w.heap.size w (w.alloc (.cells #[v] t)) := (Below.refl _ _).alloc (Nat.le_refl _) _

set_option maxHeartbeats 1000000 in
theorem bargs_bad (b : Int) (w : World) (h : b < 1 ∨ 64 < b) (ht : TabAt w) :
    Calls Tryd.prog 7 #[.int .i64 b] w fun e w' => e = .returned (.bool true) ∧ Below w.heap.size w w' := by
  have hb0 := below_one w (.string (crcm.mk [120])) 9
  have ht0 := ht.below hb0 ht.1
  have hmk := make_any _ [[120]] b _ (texts_one w [120] (by decide)) (by simp) ht0
  unfold MakePost at hmk
  rw [make_x_bad b h] at hmk
  have HMK := Lib.hid hmk
  have HB0 := Lib.hid hb0
  clear hmk hb0
  rcases h with h | h
  all_goals
    go_enter Tryd.func7, Tryd.ntmps7
    go_wp2_with fail
    refine HMK.out.mono ?_
    rintro e w1 ⟨rfl, hb1⟩
    have ht1 := ht0.below hb1 ht0.1
    have HB1 := Lib.hid (HB0.out.trans (hb1.mono HB0.out.size))
    clear hb1
    have hemp : (crcm.mk []).toList = [] := by rw [ByteArray.toList_eq]; rfl
    go_wp2_with fail
    refine (shown_any _ ht1).mono ?_
    rintro e w2 ⟨rfl, hb2⟩
    have HB2 := Lib.hid (HB1.out.trans (hb2.mono HB1.out.size))
    clear hb2
    go_wp2_with fail
    go_ret
    exact ⟨rfl, HB2.out⟩
set_option maxHeartbeats 1000000 in
theorem bargs_good (b : Int) (w : World) (h : 1 ≤ b) (h2 : b ≤ 64) (ht : TabAt w) :
    Calls Tryd.prog 7 #[.int .i64 b] w fun e w' => e = .returned (.bool true) ∧ Below w.heap.size w w' := by
  have hb0 := below_one w (.string (crcm.mk [120])) 9
  have ht0 := ht.below hb0 ht.1
  have hmk := make_any _ [[120]] b _ (texts_one w [120] (by decide)) (by simp) ht0
  unfold MakePost at hmk
  rw [make_x b h h2] at hmk
  have hfl := blm.filt_len 8 [[120]]
  obtain ⟨F, hF⟩ : ∃ F, blm.filt 8 [[120]] = F := ⟨_, rfl⟩
  rw [hF] at hmk hfl
  have hsz : (crcm.mk F).size = 8 := by rw [crcm.mk_size, hfl]
  have HMK := Lib.hid hmk
  have HB0 := Lib.hid hb0
  clear hmk hb0 hfl hF
  go_enter Tryd.func7, Tryd.ntmps7
  go_wp2_with fail
  refine HMK.out.mono ?_
  rintro e w1 ⟨rfl, hb1⟩
  have ht1 := ht0.below hb1 ht0.1
  have HB1 := Lib.hid (HB0.out.trans (hb1.mono HB0.out.size))
  clear hb1
  go_wp2_with fail
  refine (may_none _ _ _ rfl).mono ?_
  rw [show blm.may (ByteArray.mk #[]).data.toList (ByteArray.mk #[120]).data.toList = true from rfl]
  rintro e w2 ⟨rfl, hb2⟩
  have ht2 := ht1.below hb2 ht1.1
  have HB2 := Lib.hid (HB1.out.trans (hb2.mono HB1.out.size))
  clear hb2
  go_wp2_with fail
  refine (shown_any _ ht2).mono ?_
  rintro e w3 ⟨rfl, hb3⟩
  have HB3 := Lib.hid (HB2.out.trans (hb3.mono HB2.out.size))
  clear hb3
  go_wp2_with fail
  go_ret
  exact ⟨rfl, HB3.out⟩
theorem bargs_law (b : Int) (w : World) (ht : TabAt w) :
    Calls Tryd.prog 7 #[.int .i64 b] w fun e w' => e = .returned (.bool true) ∧ Below w.heap.size w w' := by
  by_cases h : b < 1 ∨ 64 < b
  · exact bargs_bad b w h ht
  · exact bargs_good b w (by omega) (by omega) ht

/-- which places are told -/
def askd (s : List UInt8) (m : Nat) : List Nat := if m < 1 then [] else blm.places s m
theorem askd_len (s : List UInt8) (m : Nat) : (askd s m).length ≤ 4 := by unfold askd; split <;> simp [blm.places]
theorem bits_all (s : ByteArray) (m : Nat) (w : World) (hs : s.size ≤ 1000000) (hm2 : m ≤ 1000000) (ht : TabAt w) :
    Calls Tryd.prog 16 #[.string s, .int .i64 (m : Int)] w fun e w' => ∃ v, e = .returned v ∧ Vals w' v ((askd s.data.toList m).map numV) ∧ Below w.heap.size w w' := by
  unfold askd
  by_cases h : m < 1
  · rw [if_pos h]; exact bits_none s m w (by omega)
  · rw [if_neg h]; exact bits_some s m w hs (by omega) hm2 ht
theorem rbits_all (s : ByteArray) (m : Nat) (w : World) (hs : s.size ≤ 1000000) (hm2 : m ≤ 1000000) :
    Calls Tryd.prog 17 #[.string s, .int .i64 (m : Int)] w fun e w' => ∃ v, e = .returned v ∧ Vals w' v ((askd s.data.toList m).map numV) ∧ Below w.heap.size w w' := by
  unfold askd
  by_cases h : m < 1
  · rw [if_pos h]; exact rbits_none s m w hs (by omega)
  · rw [if_neg h]; exact rbits_some s m w hs (by omega) hm2

def okNames (names : List (List UInt8)) : Bool := decide (names.length ≤ 100) && names.all fun t => decide (t.length ≤ 200)
theorem okNames_in {names : List (List UInt8)} (h : okNames names = true) : names.length ≤ 100 ∧ ∀ t ∈ names, t.length ≤ 200 := by
  unfold okNames at h
  rw [Bool.and_eq_true, decide_eq_true_iff, List.all_eq_true] at h
  exact ⟨h.1, fun t ht => by simpa using h.2 t ht⟩

theorem bmakes_out1 (v : Value) (names : List (List UInt8)) (b : Int) (name fl : ByteArray) (m : Nat) (w : World) (hv : Texts w v names) (hok : okNames names = false) (ht : TabAt w) :
    Calls Tryd.prog 3 #[v, .int .i64 b, .string name, .string fl, .int .u16 (m : Int)] w fun e w' => e = .returned (.bool true) ∧ Below w.heap.size w w' := by
  have hbo := bounded_any v names w hv
  rw [show (decide (names.length ≤ 100) && names.all fun t => decide (t.length ≤ 200)) = false from hok] at hbo
  have HBO := Lib.hid hbo
  clear hbo
  go_enter Tryd.func3, Tryd.ntmps3
  go_wp2_with fail
  refine HBO.out.mono ?_
  rintro e w0 ⟨rfl, rfl⟩
  go_wp2_with (go_at_call 10; refine (shown_any _ ht).mono ?_; rintro e w1 ⟨rfl, hb1⟩)
  go_ret
  exact ⟨rfl, hb1⟩
theorem bmakes_out2 (v : Value) (names : List (List UInt8)) (b : Int) (name fl : ByteArray) (m : Nat) (w : World) (hv : Texts w v names) (hok : okNames names = true) (hs : name.size ≤ maxLen) (h : 200 < name.size) (ht : TabAt w) :
    Calls Tryd.prog 3 #[v, .int .i64 b, .string name, .string fl, .int .u16 (m : Int)] w fun e w' => e = .returned (.bool true) ∧ Below w.heap.size w w' := by
  have hbo := bounded_any v names w hv
  rw [show (decide (names.length ≤ 100) && names.all fun t => decide (t.length ≤ 200)) = true from hok] at hbo
  have HBO := Lib.hid hbo
  unfold maxLen at hs
  clear hbo
  go_enter Tryd.func3, Tryd.ntmps3
  go_wp2_with fail
  refine HBO.out.mono ?_
  rintro e w0 ⟨rfl, rfl⟩
  go_wp2_with (go_at_call 10; refine (shown_any _ ht).mono ?_; rintro e w1 ⟨rfl, hb1⟩)
  go_ret
  exact ⟨rfl, hb1⟩
theorem bmakes_out3 (v : Value) (names : List (List UInt8)) (b : Int) (name fl : ByteArray) (m : Nat) (w : World) (hv : Texts w v names) (hok : okNames names = true) (hs : name.size ≤ 200) (hf : fl.size ≤ maxLen) (h : 300 < fl.size) (ht : TabAt w) :
    Calls Tryd.prog 3 #[v, .int .i64 b, .string name, .string fl, .int .u16 (m : Int)] w fun e w' => e = .returned (.bool true) ∧ Below w.heap.size w w' := by
  have hbo := bounded_any v names w hv
  rw [show (decide (names.length ≤ 100) && names.all fun t => decide (t.length ≤ 200)) = true from hok] at hbo
  have HBO := Lib.hid hbo
  unfold maxLen at hf
  clear hbo
  go_enter Tryd.func3, Tryd.ntmps3
  go_wp2_with fail
  refine HBO.out.mono ?_
  rintro e w0 ⟨rfl, rfl⟩
  go_wp2_with (go_at_call 10; refine (shown_any _ ht).mono ?_; rintro e w1 ⟨rfl, hb1⟩)
  go_ret
  exact ⟨rfl, hb1⟩

set_option maxHeartbeats 4000000 in
theorem bmakes_in (v : Value) (names : List (List UInt8)) (b : Int) (name fl : ByteArray) (m : Nat) (w : World) (hv : Texts w v names) (hok : okNames names = true) (hs : name.size ≤ 200) (hf : fl.size ≤ 300) (hm : m ≤ 65535) (ht : TabAt w) :
    Calls Tryd.prog 3 #[v, .int .i64 b, .string name, .string fl, .int .u16 (m : Int)] w fun e w' => e = .returned (.bool true) ∧ Below w.heap.size w w' := by
  have hbo := bounded_any v names w hv
  rw [show (decide (names.length ≤ 100) && names.all fun t => decide (t.length ≤ 200)) = true from hok] at hbo
  have HBO := Lib.hid hbo
  have hin : ∀ t ∈ names, t.length ≤ 1000000 := fun t h => Nat.le_trans ((okNames_in hok).2 t h) (by decide)
  have HIN := Lib.hid hin
  have HAL := Lib.hid (askd_len name.data.toList m)
  clear hbo hin
  go_enter Tryd.func3, Tryd.ntmps3
  go_wp2_with fail
  refine HBO.out.mono ?_
  rintro e w0 ⟨rfl, rfl⟩
  go_wp2_with fail
  refine (shown_any _ ht).mono ?_
  rintro e w1 ⟨rfl, hb1⟩
  have ht1 := ht.below hb1 ht.1
  have hv1 := hv.below hb1
  have HB1 := Lib.hid hb1
  clear hb1
  go_wp2_with fail
  refine (make_any v names b w1 hv1 HIN.out ht1).mono ?_
  unfold MakePost
  rintro e w2 ⟨rfl, hb2⟩
  have ht2 := ht1.below hb2 ht1.1
  have hv2 := hv1.below hb2
  have HB2 := Lib.hid (HB1.out.trans (hb2.mono HB1.out.size))
  clear hb2
  obtain ⟨F, hF⟩ : ∃ F, (blm.make names b).1 = F := ⟨_, rfl⟩
  obtain ⟨E, hE⟩ : ∃ F, (blm.make names b).2 = F := ⟨_, rfl⟩
  rw [hF, hE]
  have HF := Lib.hid hF
  have HE := Lib.hid hE
  clear hF hE
  go_wp2_with fail
  refine (rmake_any v names b w2 hv2 HIN.out).mono ?_
  unfold MakePost
  rw [HF.out, HE.out]
  rintro e w3 ⟨rfl, hb3⟩
  have ht3 := ht2.below hb3 ht2.1
  have HB3 := Lib.hid (HB2.out.trans (hb3.mono HB2.out.size))
  clear hb3
  go_wp2_with fail
  refine (full_any fl w3 (by omega)).mono ?_
  rintro e w4 ⟨rfl, hb4⟩
  have ht4 := ht3.below hb4 ht3.1
  have HB4 := Lib.hid (HB3.out.trans (hb4.mono HB3.out.size))
  clear hb4
  obtain ⟨N, hN⟩ : ∃ N, blm.full fl.data.toList = N := ⟨_, rfl⟩
  rw [hN]
  have HN := Lib.hid hN
  clear hN
  go_wp2_with fail
  refine (rfull_any fl w4 (by omega)).mono ?_
  rw [HN.out]
  rintro e w5 ⟨rfl, rfl⟩
  go_wp2_with fail
  refine (bits_all name m w4 (by omega) (by omega) ht4).mono ?_
  rintro e w6 ⟨u1, rfl, hu1, hb6⟩
  have HB6 := Lib.hid (HB4.out.trans (hb6.mono HB4.out.size))
  clear hb6
  go_wp2_with fail
  refine (rbits_all name m w6 (by omega) (by omega)).mono ?_
  rintro e w7 ⟨u2, rfl, hu2, hb7⟩
  have hu1' := hu1.below hb7
  have HB7 := Lib.hid (HB6.out.trans (hb7.mono HB6.out.size))
  clear hb7
  go_wp2_with fail
  refine (same_ints hu1' hu2 (by have := HAL.out; unfold maxLen; omega)).mono ?_
  rw [decide_eq_true rfl]
  rintro e w8 ⟨rfl, q, rfl⟩
  go_wp2_with fail
  go_ret
  exact ⟨rfl, below_drewN HB7.out _⟩
theorem bmakes_law (v : Value) (names : List (List UInt8)) (b : Int) (name fl : ByteArray) (m : Nat) (w : World) (hv : Texts w v names) (hs : name.size ≤ maxLen) (hf : fl.size ≤ maxLen) (hm : m ≤ 65535) (ht : TabAt w) :
    Calls Tryd.prog 3 #[v, .int .i64 b, .string name, .string fl, .int .u16 (m : Int)] w fun e w' => e = .returned (.bool true) ∧ Below w.heap.size w w' := by
  cases hok : okNames names with
  | false => exact bmakes_out1 v names b name fl m w hv hok ht
  | true =>
    by_cases h1 : name.size ≤ 200
    · by_cases h2 : fl.size ≤ 300
      · exact bmakes_in v names b name fl m w hv hok h1 h2 hm ht
      · exact bmakes_out3 v names b name fl m w hv hok h1 hf (by omega) ht
    · exact bmakes_out2 v names b name fl m w hv hok hs (by omega) ht
end Go.Proofs.YtckchihdeimgpaaDoor
