/- shown: that texts are there when it is opened anew. -/
import Derived.Test.YtdnoeahhidmkbaaDoorWlUse
namespace Go.Proofs.YtdnoeahhidmkbaaDoor
open Go Go.RowKit
set_option maxRecDepth 100000

set_option maxHeartbeats 8000000 in
theorem wal_shown (w : World) (ht : TabAt w) : Calls Tryd.prog 9 #[] w fun e w' => e = .returned (.bool true) ∧ Below w.heap.size w w' := by
  have hE : wl.openE [119] = true := by decide
  have q1 : wl.open_ ⟨1000, [], false, 0, 0⟩ [119] = (wl.st 1000 [119] [] 0, [], 0) := wl.st_new hE (by omega)
  have l1 : (crcm.flat [[97], [98]]).length = 14 := by simp [crcm.flat, crcm.body_len]
  have l2 : (crcm.flat [[99]]).length = 7 := by simp [crcm.flat, crcm.body_len]
  have l3 : (crcm.flat [[100]]).length = 7 := by simp [crcm.flat, crcm.body_len]
  have l4 : (crcm.flat [[99], [100]]).length = 14 := by simp [crcm.flat, crcm.body_len]
  have q2 : wl.append (wl.st 1000 [119] [] 0) ⟨[119], 0, false⟩ [[97], [98]] = (wl.st 1000 [119] (crcm.flat [[97], [98]]) 0, ⟨[119], 2, false⟩, 0) := wl.st_append rfl rfl hE _ (by simp) (by rw [l1]; simp)
  have q3 : wl.reset (wl.st 1000 [119] (crcm.flat [[97], [98]]) 0) ⟨[119], 2, false⟩ [[99]] = (wl.st 1000 [119] (crcm.flat [[99]]) 0, ⟨[119], 1, false⟩, 0) := wl.st_reset rfl rfl hE (by omega) _ (by simp) (by rw [l1, l2]; omega)
  have q4 : wl.append (wl.st 1000 [119] (crcm.flat [[99]]) 0) ⟨[119], 1, false⟩ [[100]] = (wl.st 1000 [119] (crcm.flat [[99], [100]]) 0, ⟨[119], 2, false⟩, 0) := by
    rw [wl.st_append (l := ⟨[119], 1, false⟩) rfl rfl hE _ (by simp) (by rw [l2, l3]; omega), ← crcm.flat_append]; rfl
  have q5 : wl.open_ (wl.st 1000 [119] (crcm.flat [[99], [100]]) 0) [119] = (wl.st 1000 [119] (crcm.flat [[99], [100]]) 0, [[99], [100]], 0) := wl.st_open hE _ (by simp)
  generalize wl.st 1000 [119] [] 0 = D1 at *
  generalize wl.st 1000 [119] (crcm.flat [[97], [98]]) 0 = D2 at *
  generalize wl.st 1000 [119] (crcm.flat [[99]]) 0 = D3 at *
  generalize wl.st 1000 [119] (crcm.flat [[99], [100]]) 0 = D4 at *
  have hN := ld_new 1000 (by omega) (Below.refl w.heap.size w)
  have Q1 := Lib.hid q1
  have Q2 := Lib.hid q2
  have Q3 := Lib.hid q3
  have Q4 := Lib.hid q4
  have Q5 := Lib.hid q5
  have HT := Lib.hid ht
  have F1 : Hid ((crcm.flat [[97], [98]]).length ≤ 1000000000) := by rw [l1]; exact Lib.hid (by omega)
  have F2 : Hid ((crcm.flat [[99]]).length ≤ 1000000000) := by rw [l2]; exact Lib.hid (by omega)
  have F3 : Hid ((crcm.flat [[100]]).length ≤ 1000000000) := by rw [l3]; exact Lib.hid (by omega)
  clear q1 q2 q3 q4 q5 l1 l2 l4 l3 ht hE
  go_enter Tryd.func9, Tryd.ntmps9
  go_wp2_with fail
  refine hN.mono ?_
  rintro e w1 ⟨p, b, rfl, hd1, hb1⟩
  have hO := ld_open [119] hd1 (by simp) HT.out
  clear hN
  go_wp2_with fail
  refine hO.mono ?_
  rintro e w2 h
  obtain ⟨A, c, g, rfl, hd2, hA2, hg2, hkeep, hl2⟩ := h.ok Q1.out
  have hl2 : Lg w2 g p ⟨[119], 0, false⟩ := hl2
  have HG : Hid (w.heap.size ≤ g) := Lib.hid (by have := hd1.bel.size; omega)
  obtain ⟨W2, hW2⟩ : ∃ W, w2.alloc (.cells #[.string ⟨#[97]⟩, .string ⟨#[98]⟩] 9) = W := ⟨_, rfl⟩
  have bW2 : Below w2.heap.size w2 W2 := by rw [← hW2]; exact (Below.refl _ w2).alloc (Nat.le_refl _) _
  have sW2 : Strs W2 (.slice (some ⟨w2.heap.size, 0, none⟩) 2 2) [[97], [98]] := by rw [← hW2]; exact strs_new w2 [[97], [98]] _ rfl
  have hc2 := ld_append _ _ (hd2.later bW2) ((bW2.block _ hl2.lt).trans hl2) HG.out sW2 F1.out (by simp) (by simp) (by simp) HT.out
  rw [Q2.out] at hc2
  clear hkeep hO h hd1 bW2 sW2 hA2
  go_wp2_with fail
  refine hc2.mono ?_
  rintro e w3 ⟨rfl, hd3, hl3, hA3⟩
  obtain ⟨W3, hW3⟩ : ∃ W, w3.alloc (.cells #[.string ⟨#[99]⟩] 9) = W := ⟨_, rfl⟩
  have bW3 : Below w3.heap.size w3 W3 := by rw [← hW3]; exact (Below.refl _ w3).alloc (Nat.le_refl _) _
  have sW3 : Strs W3 (.slice (some ⟨w3.heap.size, 0, none⟩) 1 1) [[99]] := by rw [← hW3]; exact strs_new w3 [[99]] _ rfl
  have hc3 := ld_reset _ _ (hd3.later bW3) ((bW3.block _ hl3.lt).trans hl3) HG.out sW3 F2.out (by simp) (by simp) HT.out
  rw [Q3.out] at hc3
  clear hc2 bW3 sW3 hd2 hl2 hW2
  go_wp2_with fail
  refine hc3.mono ?_
  rintro e w4 ⟨rfl, hd4, hl4, hA4⟩
  obtain ⟨W4, hW4⟩ : ∃ W, w4.alloc (.cells #[.string ⟨#[100]⟩] 9) = W := ⟨_, rfl⟩
  have bW4 : Below w4.heap.size w4 W4 := by rw [← hW4]; exact (Below.refl _ w4).alloc (Nat.le_refl _) _
  have sW4 : Strs W4 (.slice (some ⟨w4.heap.size, 0, none⟩) 1 1) [[100]] := by rw [← hW4]; exact strs_new w4 [[100]] _ rfl
  have hc4 := ld_append _ _ (hd4.later bW4) ((bW4.block _ hl4.lt).trans hl4) HG.out sW4 F3.out (by simp) (by simp) (by simp) HT.out
  rw [Q4.out] at hc4
  clear hc3 bW4 sW4 hd3 hl3 hW3
  go_wp2_with fail
  refine hc4.mono ?_
  rintro e w5 ⟨rfl, hd5, hl5, hA5⟩
  have hO := ld_open [119] hd5 (by simp) HT.out
  clear hc4 hd4 hl4 hW4
  go_wp2_with fail
  refine hO.mono ?_
  rintro e w6 h
  obtain ⟨A2, c2, g2, rfl, hd6, hA6, hg6, hkeep, hl6⟩ := h.ok Q5.out
  obtain ⟨A', c', hE, hcells⟩ := hkeep w6 (.refl _ _)
  injection hE with e1 e2 e3
  subst e1 e3
  obtain ⟨ad, rfl, x0⟩ := hcells 0 (by simp)
  obtain ⟨ad', e4, x1⟩ := hcells 1 (by simp)
  obtain rfl := Option.some.inj e4
  have y0 : w6.cell? (ad.add 0) = some (.string ⟨#[99]⟩) := x0
  have y1 : w6.cell? (ad.add 1) = some (.string ⟨#[100]⟩) := x1
  have hmany := wal_many (hl5.apart hA6 (log_out hl5 hd5.dk))
  rw [show ad.add 0 = ad from by simp [Addr.add]] at y0
  rw [show ad.add 1 = ⟨ad.block, ad.off + 1, none⟩ from by simp [Addr.add]] at y1
  clear hO h hcells hkeep x0 x1
  go_wp2_with fail
  refine hmany.mono ?_
  rintro e w7 ⟨rfl, rfl⟩
  go_wp2_with fail
  go_ret
  exact ⟨rfl, hd6.bel⟩
end Go.Proofs.YtdnoeahhidmkbaaDoor
