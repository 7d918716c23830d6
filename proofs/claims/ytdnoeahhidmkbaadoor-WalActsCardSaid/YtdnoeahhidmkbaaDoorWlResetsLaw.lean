/- WalResets walked: whatever comes in, it returns true. -/
import Derived.Test.YtdnoeahhidmkbaaDoorWlShown
import Derived.Test.YtdnoeahhidmkbaaDoorWlBounded
import Derived.Test.YtdnoeahhidmkbaaDoorWlCut
namespace Go.Proofs.YtdnoeahhidmkbaaDoor
open Go Go.RowKit
set_option maxRecDepth 100000

namespace wl
open vd
theorem change_off {d : Disk} {l : L} (h : l.off = true) (ls : List (List UInt8)) (m : Nat) (op : List UInt8 → Op1) : change d l ls m op = (d, l, 6) := by unfold change; rw [if_pos h]
theorem flat_short {ls : List (List UInt8)} (h : okTexts ls = true) : (crcm.flat ls).length ≤ 2060 ∧ (∀ t ∈ ls, t.length ≤ 65535) ∧ ls.length ≤ 10 := by
  obtain ⟨h1, h2⟩ := okTexts_iff.1 h
  have := crcm.flat_le ls h1
  exact ⟨by omega, fun t ht => by have := h1 t ht; omega, h2⟩
/-- a Reset under a fuse, and the log opened anew behind it -/
theorem reset_cut {c : Nat} {k : Int} {n : Name} {a b : List (List UInt8)} {l : L} (j : Nat) (hl : l.off = false) (hln : l.name = n) (hn : openE n = true) (ha : ∀ t ∈ a, t.length ≤ 65535) (hb : ∀ t ∈ b, t.length ≤ 65535) (hr : (crcm.flat a).length + (crcm.flat b).length ≤ c) :
    ∃ d2 l2 e, reset ⟨c, [(n, (crcm.flat a, (crcm.flat a).length))], false, j, k⟩ l b = (d2, l2, e) ∧ (e = 0 ∨ (e = 6 ∧ l2.off = true)) ∧ d2.cap = c ∧ l2.name = n ∧ l2.many ≤ max l.many b.length ∧
      ∃ d3 ts, open_ { d2 with off := false, left := 0 } n = (d3, ts, 0) ∧ (ts = b ∨ (e = 6 ∧ ts = a)) := by
  obtain ⟨⟨M, j', h1, h2, h3⟩⟩ := write_cut (k := k) j hn hr
  obtain ⟨r, hrr⟩ : ∃ r, write ⟨c, [(n, (crcm.flat a, (crcm.flat a).length))], false, j, k⟩ n (crcm.flat b) = r := ⟨_, rfl⟩
  rw [hrr] at h1 h3
  have hres : reset ⟨c, [(n, (crcm.flat a, (crcm.flat a).length))], false, j, k⟩ l b = (r.1, told l r.2 b.length, r.2) := by
    unfold reset change
    rw [if_neg (by rw [hl]; simp), bytes_fit b hb, hln]
    show (if (0 : Nat) ≠ 0 then _ else ((write _ n (crcm.flat b)).1, told l (write _ n (crcm.flat b)).2 b.length, (write _ n (crcm.flat b)).2)) = _
    rw [if_neg (by simp), hrr]
  refine ⟨r.1, told l r.2 b.length, r.2, hres, ?_, by rw [h1], by rw [told_name]; exact hln, ?_, ?_⟩
  · rcases h3 with ⟨h, _⟩ | ⟨h, _⟩
    · exact .inl h
    · exact .inr ⟨h, by rw [h]; rfl⟩
  · unfold told
    split
    · exact Nat.le_max_right _ _
    · split
      · exact Nat.le_max_left _ _
      · exact Nat.le_max_left _ _
  · have hq : Quiet ({ r.1 with off := false, left := 0 } : Disk) := ⟨rfl, rfl⟩
    have hM : ({ r.1 with off := false, left := 0 } : Disk).files = M := by rw [h1]
    rcases h3 with ⟨h, h4⟩ | ⟨h, S, hS, h4⟩
    · exact ⟨_, b, open_whole hq hn (by rw [hM]; exact h2) b (by rw [hM, h4]; exact allOf_whole b hb), .inl rfl⟩
    · rcases hS with rfl | rfl
      · exact ⟨_, a, open_whole hq hn (by rw [hM]; exact h2) a (by rw [hM, h4]; exact allOf_whole a ha), .inr ⟨h, rfl⟩⟩
      · exact ⟨_, b, open_whole hq hn (by rw [hM]; exact h2) b (by rw [hM, h4]; exact allOf_whole b hb), .inl rfl⟩
end wl
section
variable {w0 w : World} {p b : Nat} {d : vd.Disk}
theorem ld_fuse (n k : Int) (h : Ldk w0 w p b d) (hn : n ≤ 9223372036854775807) :
    Calls Tryd.prog 18 #[.pointer (some ⟨p, 0, none⟩), .int .i64 n, .int .i64 k] w (fun e w' => e = .returned (.tuple #[]) ∧ Ldk w0 w' p b { d with left := (max n 0).toNat, keep := k } ∧ Apart [p] w w') :=
  (vd_fuse h.dk n k).mono (by
    rintro e w' ⟨h1, h2, h3⟩
    exact ⟨h1, h.next h3 (by have := h.hp; simp; omega) h2 ⟨h.ok.cap, h.ok.tot, h.ok.nod, h.ok.syn, h.ok.nam, by show (max n 0).toNat ≤ _; omega⟩ rfl, h3⟩)
theorem ld_on (h : Ldk w0 w p b d) :
    Calls Tryd.prog 19 #[.pointer (some ⟨p, 0, none⟩)] w (fun e w' => e = .returned (.tuple #[]) ∧ Ldk w0 w' p b { d with off := false, left := 0 } ∧ Apart [p] w w') :=
  (vd_on h.dk).mono (by
    rintro e w' ⟨h1, h2, h3⟩
    exact ⟨h1, h.next h3 (by have := h.hp; simp; omega) h2 ⟨h.ok.cap, h.ok.tot, h.ok.nod, h.ok.syn, h.ok.nam, by show 0 ≤ _; omega⟩ rfl, h3⟩)
end
set_option maxHeartbeats 8000000 in
theorem resets_bad (va vb : Value) (a b : List (List UInt8)) (n : Nat) (keep : Int) (w : World) (ha : Texts w va a) (hb : Texts w vb b) (hno : wl.okTexts a = false ∨ wl.okTexts b = false) (ht : TabAt w) :
    Calls Tryd.prog 6 #[va, vb, .int .u8 (n : Int), .int .i64 keep] w fun e w' => e = .returned (.bool true) ∧ Below w.heap.size w w' := by
  obtain ⟨A1, c1, rfl, _⟩ : ∃ A c, va = .slice A a.length c ∧ True := by obtain ⟨⟨A, c, h, _⟩, _⟩ := ha; exact ⟨A, c, h, trivial⟩
  obtain ⟨A2, c2, rfl, _⟩ : ∃ A c, vb = .slice A b.length c ∧ True := by obtain ⟨⟨A, c, h, _⟩, _⟩ := hb; exact ⟨A, c, h, trivial⟩
  have HT := Lib.hid ht
  have hba := wal_bounded 0 0 0 (.slice A1 a.length c1) a w ha
  have hbb : Hid (∀ w', Below w.heap.size w w' → Calls Tryd.prog 14 #[.agg #[.int .i64 0, .int .i64 0, .int .i64 0, .slice A2 b.length c2]] w' fun e w2 => e = .returned (.bool (wl.okTexts b)) ∧ Below w'.heap.size w' w2) := Lib.hid fun w' h => wal_bounded 0 0 0 (.slice A2 b.length c2) b w' (hb.below h)
  have HNO := Lib.hid hno
  clear ht hno
  go_enter Tryd.func6, Tryd.ntmps6
  go_wp2_with fail
  refine hba.mono ?_
  rintro e w1 ⟨rfl, b1⟩
  have hno := HNO.out
  cases hoa : wl.okTexts a with
  | false =>
    clear hno
    go_wp2_with fail
    refine (wal_shown w1 (HT.out.below b1 HT.out.1)).mono ?_
    rintro e w2 ⟨rfl, b2⟩
    go_wp2_with fail
    go_ret
    exact ⟨rfl, b1.trans (b2.mono b1.size)⟩
  | true =>
    have hob : wl.okTexts b = false := by
      rcases hno with h | h
      · rw [hoa] at h; cases h
      · exact h
    have hcb := hbb.out w1 b1
    rw [hob] at hcb
    clear hno hob
    go_wp2_with fail
    refine hcb.mono ?_
    rintro e w2 ⟨rfl, b2⟩
    have b02 := b1.trans (b2.mono b1.size)
    clear hcb
    go_wp2_with fail
    refine (wal_shown w2 (HT.out.below b02 HT.out.1)).mono ?_
    rintro e w3 ⟨rfl, b3⟩
    go_wp2_with fail
    go_ret
    exact ⟨rfl, b02.trans (b3.mono b02.size)⟩
set_option maxHeartbeats 8000000 in
theorem resets_ok (va vb : Value) (a b : List (List UInt8)) (n : Nat) (keep : Int) (w : World) (hn : n < 256) (ha : Texts w va a) (hb : Texts w vb b) (hoa : wl.okTexts a = true) (hob : wl.okTexts b = true) (ht : TabAt w) :
    Calls Tryd.prog 6 #[va, vb, .int .u8 (n : Int), .int .i64 keep] w fun e w' => e = .returned (.bool true) ∧ Below w.heap.size w w' := by
  obtain ⟨A1, c1, rfl, _⟩ : ∃ A c, va = .slice A a.length c ∧ True := by obtain ⟨⟨A, c, h, _⟩, _⟩ := ha; exact ⟨A, c, h, trivial⟩
  obtain ⟨A2, c2, rfl, _⟩ : ∃ A c, vb = .slice A b.length c ∧ True := by obtain ⟨⟨A, c, h, _⟩, _⟩ := hb; exact ⟨A, c, h, trivial⟩
  have HT := Lib.hid ht
  have hba := wal_bounded 0 0 0 (.slice A1 a.length c1) a w ha
  have hbb : Hid (∀ w', Below w.heap.size w w' → Calls Tryd.prog 14 #[.agg #[.int .i64 0, .int .i64 0, .int .i64 0, .slice A2 b.length c2]] w' fun e w2 => e = .returned (.bool true) ∧ Below w'.heap.size w' w2) := Lib.hid fun w' h => by
    have := wal_bounded 0 0 0 (.slice A2 b.length c2) b w' (hb.below h)
    rw [hob] at this
    exact this
  rw [hoa] at hba
  obtain ⟨fa, ta, la⟩ := wl.flat_short hoa
  obtain ⟨fb, tb, lb⟩ := wl.flat_short hob
  have hE : wl.openE [108, 111, 103] = true := by decide
  obtain ⟨j, hj⟩ : ∃ j, n % 7 = j := ⟨_, rfl⟩
  have hji : (n : Int).tmod 7 = (j : Int) := by rw [← hj, Int.tmod_eq_emod_of_nonneg (by omega)]; simp
  have hjj : (max (j : Int) 0).toNat = j := by omega
  have hj7 : j < 7 := by rw [← hj]; exact Nat.mod_lt _ (by omega)
  have Q1 := Lib.hid (wl.st_new (c := 100000) (k := 0) hE (by omega))
  have Q2 := Lib.hid (wl.st_append (c := 100000) (k := 0) (S := []) (l := ⟨[108, 111, 103], 0, false⟩) rfl rfl hE a ta (by simp; omega))
  obtain ⟨d2, l2, e2, hq3, he2, hcap, hnm, hmn, d3, ts, hq4, hts⟩ := wl.reset_cut (c := 100000) (k := keep) (l := ⟨[108, 111, 103], a.length, false⟩) j rfl rfl hE ta tb (by omega)
  have Q3 := Lib.hid hq3
  have Q4 := Lib.hid hq4
  have HA : Hid (∀ w', Below w.heap.size w w' → Strs w' (.slice A1 a.length c1) a) := Lib.hid fun w' h => ha.1.below h
  have HB : Hid (∀ w', Below w.heap.size w w' → Strs w' (.slice A2 b.length c2) b) := Lib.hid fun w' h => hb.1.below h
  have FA : Hid ((crcm.flat a).length ≤ 1000000000) := Lib.hid (by omega)
  have FB : Hid ((crcm.flat b).length ≤ 1000000000) := Lib.hid (by omega)
  have HE2 := Lib.hid he2
  have HTS := Lib.hid hts
  have HLA := Lib.hid la
  have HLB := Lib.hid lb
  have HNM := Lib.hid hnm
  have HMANY : Hid (l2.many ≤ 1000000000) := Lib.hid (Nat.le_trans hmn (by show max a.length b.length ≤ _; omega))
  clear ht hoa hob fa fb ta tb hE hj hq3 hq4 he2 hts la lb ha hb hcap hnm hmn
  go_enter Tryd.func6, Tryd.ntmps6
  go_wp2_with fail
  refine hba.mono ?_
  rintro e w1 ⟨rfl, b1⟩
  have hcb := hbb.out w1 b1
  clear hba
  go_wp2_with fail
  refine hcb.mono ?_
  rintro e w2 ⟨rfl, b2⟩
  have b02 := b1.trans (b2.mono b1.size)
  clear hcb
  go_wp2_with fail
  refine (wal_shown w2 (HT.out.below b02 HT.out.1)).mono ?_
  rintro e w3 ⟨rfl, b3⟩
  have b03 := b02.trans (b3.mono b02.size)
  clear b1 b2 b02 b3
  go_wp2_with fail
  refine (ld_new 100000 (by omega) b03).mono ?_
  rintro e w4 ⟨p, q, rfl, hd4, b4⟩
  have hO := ld_open [108, 111, 103] hd4 (by simp) HT.out
  go_wp2_with fail
  refine hO.mono ?_
  rintro e w5 h
  obtain ⟨A, c, g, rfl, hd5, hA5, hg5, _, hl5⟩ := h.ok Q1.out
  have hl5 : Lg w5 g p ⟨[108, 111, 103], 0, false⟩ := hl5
  have G : Hid (w.heap.size ≤ g) := Lib.hid (by have := hd4.bel.size; omega)
  have hc := ld_append _ a hd5 hl5 G.out (HA.out w5 hd5.bel) FA.out (by have := HLA.out; omega) (by simp) (by simp) HT.out
  rw [Q2.out] at hc
  clear hO h b03 b4 hd4 hA5
  go_wp2_with fail
  refine hc.mono ?_
  rintro e w6 ⟨rfl, hd6, hl6, _⟩
  have hl6 : Lg w6 g p ⟨[108, 111, 103], a.length, false⟩ := by simpa using hl6
  have hf := ld_fuse (j : Int) keep hd6 (by omega)
  rw [hjj] at hf
  clear hc hd5 hl5
  go_wp2_with fail
  refine hf.mono ?_
  rintro e w7 ⟨rfl, hd7, hA7⟩
  have hl7 : Lg w7 g p ⟨[108, 111, 103], a.length, false⟩ := hl6.apart hA7 (by have := log_out hl6 hd6.dk; simp at this ⊢; exact this.1)
  have hr := ld_reset _ b hd7 hl7 G.out (HB.out w7 hd7.bel) FB.out (by have := HLB.out; omega) (by simp) HT.out
  have e0 : ({ wl.st 100000 [108, 111, 103] ([] ++ crcm.flat a) 0 with left := j, keep := keep } : vd.Disk) = ⟨100000, [([108, 111, 103], (crcm.flat a, (crcm.flat a).length))], false, j, keep⟩ := rfl
  rw [e0, Q3.out] at hr
  clear hf hd6 hl6 hd7 hl7 hA7 e0
  go_wp2_with fail
  refine hr.mono ?_
  rintro e w8 ⟨rfl, hd8, hl8, _⟩
  clear hr
  have hend : ∀ w9, Ldk w w9 p q d2 → True := fun _ _ => trivial
  rcases HE2.out with h0 | ⟨h0, hoff⟩
  · subst h0
    have hts : ts = b := by
      rcases HTS.out with h | ⟨h, _⟩
      · exact h
      · cases h
    subst hts
    go_wp2_with fail
    refine (ld_on hd8).mono ?_
    rintro e w9 ⟨rfl, hd9, _⟩
    have hO := ld_open [108, 111, 103] hd9 (by simp) HT.out
    go_wp2_with fail
    refine hO.mono ?_
    rintro e w10 h
    obtain ⟨A3, c3, g3, rfl, hd10, _, _, hk10, _⟩ := h.ok Q4.out
    have s1 := hk10 w10 (.refl _ _)
    have s2 := HB.out w10 hd10.bel
    have B10 := Lib.hid hd10.bel
    clear hO h hk10 hd10 hd9 hd8 hl8 hend
    go_wp2_with fail
    refine (same_texts s1 s2 (by have := HLB.out; unfold maxLen; omega)).mono ?_
    rintro e w11 ⟨rfl, q11, hq⟩
    rw [decide_eq_true rfl]
    have b11 : Below w10.heap.size w10 w11 := by rw [← hq]; exact below_drewN (Below.refl _ _) _
    clear hq
    go_wp2_with fail
    go_ret
    exact ⟨rfl, B10.out.trans (b11.mono B10.out.size)⟩
  · subst h0
    have hoffm := wal_off hl8
    rw [hoff] at hoffm
    have qa : wl.append d2 l2 [[120]] = (d2, l2, 6) := wl.change_off hoff _ _ _
    have qr : wl.reset d2 l2 [] = (d2, l2, 6) := wl.change_off hoff _ _ _
    have QA := Lib.hid qa
    have QR := Lib.hid qr
    obtain ⟨W8, hW8⟩ : ∃ W, w8.alloc (.cells #[.string ⟨#[120]⟩] 9) = W := ⟨_, rfl⟩
    have bW8 : Below w8.heap.size w8 W8 := by rw [← hW8]; exact (Below.refl _ w8).alloc (Nat.le_refl _) _
    have sW8 : Strs W8 (.slice (some ⟨w8.heap.size, 0, none⟩) 1 1) [[120]] := by rw [← hW8]; exact strs_new w8 [[120]] _ rfl
    have hnm := HNM.out
    have hmany : l2.many ≤ 1000000000 := HMANY.out
    have hca := ld_append _ [[120]] (hd8.later bW8) ((bW8.block _ hl8.lt).trans hl8) G.out sW8 (by simp [crcm.flat, crcm.body_len]) (by simp) (by rw [hnm]; simp) hmany HT.out
    rw [QA.out] at hca
    clear qa qr hoff sW8 bW8 hd8 hl8 hend hnm hmany
    go_wp2_with fail
    refine hoffm.mono ?_
    rintro e w9 ⟨rfl, rfl⟩
    clear hoffm
    go_wp2_with fail
    refine hca.mono ?_
    rintro e w9 ⟨rfl, hd9, hl9, _⟩
    have hcr := ld_reset (.slice none 0 0) [] hd9 hl9 G.out (strs_none _) (by simp [crcm.flat]) (by simp) (by rw [HNM.out]; simp) HT.out
    rw [QR.out] at hcr
    clear hca hd9 hl9 hW8
    go_wp2_with fail
    refine hcr.mono ?_
    rintro e w10 ⟨rfl, hd10, hl10, _⟩
    clear hcr hl10
    go_wp2_with fail
    refine (ld_on hd10).mono ?_
    rintro e w11 ⟨rfl, hd11, _⟩
    have hO := ld_open [108, 111, 103] hd11 (by simp) HT.out
    clear hd10
    go_wp2_with fail
    refine hO.mono ?_
    rintro e w12 h
    obtain ⟨A3, c3, g3, rfl, hd12, _, _, hk12, _⟩ := h.ok Q4.out
    have s1 := hk12 w12 (.refl _ _)
    have s2 := HB.out w12 hd12.bel
    have hsa := HA.out
    have B12 := Lib.hid hd12.bel
    have hl1 : ts.length ≤ maxLen := by
      have h1 := HLA.out
      have h2 := HLB.out
      unfold maxLen
      rcases HTS.out with rfl | ⟨_, rfl⟩ <;> omega
    clear hO h hk12 hd12 hd11
    go_wp2_with fail
    refine (same_texts s1 s2 hl1).mono ?_
    rintro e w13 ⟨rfl, q13, hq⟩
    have b13 : Below w12.heap.size w12 w13 := by rw [← hq]; exact below_drewN (Below.refl _ _) _
    clear hq
    have B13 := Lib.hid (B12.out.trans (b13.mono B12.out.size))
    have s3 := hsa w13 B13.out
    have s4 := s1.below b13
    clear hsa s2
    by_cases hab : ts = b
    · rw [decide_eq_true hab]
      clear hab
      go_wp2_with fail
      go_ret
      exact ⟨rfl, B13.out⟩
    · rw [decide_eq_false hab]
      have hta : ts = a := by
        rcases HTS.out with h | ⟨_, h⟩
        · exact absurd h hab
        · exact h
      subst hta
      clear hab
      go_wp2_with fail
      refine (same_texts s4 s3 hl1).mono ?_
      rintro e w14 ⟨rfl, q14, hq⟩
      rw [decide_eq_true rfl]
      have b14 : Below w13.heap.size w13 w14 := by rw [← hq]; exact below_drewN (Below.refl _ _) _
      clear hq
      go_wp2_with fail
      go_ret
      exact ⟨rfl, B13.out.trans (b14.mono B13.out.size)⟩
theorem resets_law (va vb : Value) (a b : List (List UInt8)) (n : Nat) (keep : Int) (w : World) (hn : n < 256) (ha : Texts w va a) (hb : Texts w vb b) (ht : TabAt w) :
    Calls Tryd.prog 6 #[va, vb, .int .u8 (n : Int), .int .i64 keep] w fun e w' => e = .returned (.bool true) ∧ Below w.heap.size w w' := by
  by_cases h : wl.okTexts a = true ∧ wl.okTexts b = true
  · exact resets_ok va vb a b n keep w hn ha hb h.1 h.2 ht
  · refine resets_bad va vb a b n keep w ha hb ?_ ht
    cases h1 : wl.okTexts a with
    | false => exact .inl rfl
    | true =>
      cases h2 : wl.okTexts b with
      | false => exact .inr rfl
      | true => exact absurd ⟨h1, h2⟩ h
end Go.Proofs.YtdnoeahhidmkbaaDoor
