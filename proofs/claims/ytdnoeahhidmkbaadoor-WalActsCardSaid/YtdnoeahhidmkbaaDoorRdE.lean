/- The document's disk and log: RdReset, RdLApp, RdAll, RdOpen, one behind the other. -/
import Derived.Test.YtdnoeahhidmkbaaDoorRdD
namespace Go.Proofs.YtdnoeahhidmkbaaDoor
section
open Go Go.RowKit
set_option maxRecDepth 100000

set_option maxHeartbeats 16000000 in
theorem rd_reset {w : World} {v u : Value} {d : vd.Disk} (l : wl.L) (ls : List (List UInt8)) (h : Rd w v d) (ho : vd.Ok d) (hf : vd.Few d) (hv : Strs w u ls) (hn : l.name.length ≤ 200) (hmn : l.many ≤ 1000000000) (htl : ls.length ≤ 1000000000) (hfl : (crcm.flat ls).length ≤ 1000000000) :
    Calls Tryd.prog 22 #[v, lgA l, u] w (LgTo w (wl.reset d l ls)) := by
  obtain ⟨A0, n0, cc0, rfl⟩ := h.form
  obtain ⟨c0, D0, o0, l0, q0⟩ := d
  obtain ⟨nm, mn, of⟩ := l
  obtain ⟨Av, cv, rfl, hcells⟩ := hv
  obtain ⟨tn, htn⟩ : ∃ x, ls.length = x := ⟨_, rfl⟩
  have hv : Strs w (.slice Av tn cv) ls := ⟨Av, cv, by rw [htn], hcells⟩
  rw [htn]
  obtain ⟨Wa, hWa⟩ : ∃ W, w.alloc (.cells #[.int .i64 (c0 : Int), .slice A0 n0 cc0, .bool o0, .int .i64 (l0 : Int), .int .i64 q0] 45) = W := ⟨_, rfl⟩
  obtain ⟨Wb, hWb⟩ : ∃ W, Wa.alloc (.cells #[.string (crcm.mk nm), .int .i64 (mn : Int), .bool of] 47) = W := ⟨_, rfl⟩
  obtain ⟨Wc, hWc⟩ : ∃ W, Wb.alloc (.cells #[.int .i64 0, .slice none 0 0, .bool false, .int .i64 0, .int .i64 0] 45) = W := ⟨_, rfl⟩
  obtain ⟨X0, hX0⟩ : ∃ W, Wc.alloc (.cells #[.string ⟨#[]⟩, .int .i64 0, .bool false] 47) = W := ⟨_, rfl⟩
  have ba : Below w.heap.size w Wa := by rw [← hWa]; exact (Below.refl _ w).alloc (Nat.le_refl _) _
  have bb : Below Wa.heap.size Wa Wb := by rw [← hWb]; exact (Below.refl _ Wa).alloc (Nat.le_refl _) _
  have bc : Below Wb.heap.size Wb Wc := by rw [← hWc]; exact (Below.refl _ Wb).alloc (Nat.le_refl _) _
  have bx : Below Wc.heap.size Wc X0 := by rw [← hX0]; exact (Below.refl _ Wc).alloc (Nat.le_refl _) _
  have sa : Wa.heap.size = w.heap.size + 1 := by rw [← hWa]; exact Array.size_push _
  have sb : Wb.heap.size = Wa.heap.size + 1 := by rw [← hWb]; exact Array.size_push _
  have sc : Wc.heap.size = Wb.heap.size + 1 := by rw [← hWc]; exact Array.size_push _
  have va : Vb Wa w.heap.size (rdC c0 (.slice A0 n0 cc0) o0 l0 q0) 45 := by rw [← hWa]; exact Vb.new w _ _
  have vb : Vb Wb Wa.heap.size [.string (crcm.mk nm), .int .i64 (mn : Int), .bool of] 47 := by rw [← hWb]; exact Vb.new Wa _ _
  have vc : Vb Wc Wb.heap.size [.int .i64 0, .slice none 0 0, .bool false, .int .i64 0, .int .i64 0] 45 := by rw [← hWc]; exact Vb.new Wb _ _
  have vx : Vb X0 Wc.heap.size [.string ⟨#[]⟩, .int .i64 0, .bool false] 47 := by rw [← hX0]; exact Vb.new Wc _ _
  obtain ⟨b, hb⟩ : ∃ x, w.heap.size = x := ⟨_, rfl⟩
  obtain ⟨lb, hlb⟩ : ∃ x, Wa.heap.size = x := ⟨_, rfl⟩
  obtain ⟨r, hr⟩ : ∃ x, Wb.heap.size = x := ⟨_, rfl⟩
  obtain ⟨lr, hlr⟩ : ∃ x, Wc.heap.size = x := ⟨_, rfl⟩
  have hbel : Below w.heap.size w X0 := ((ba.trans (bb.mono (by omega))).trans (bc.mono (by omega))).trans (bx.mono (by omega))
  have HLB : Hid (LX w X0 lb [.string (crcm.mk nm), .int .i64 (mn : Int), .bool of]) := Lib.hid ⟨by omega, by rw [← hlb]; exact (vb.below bc).below bx⟩
  have HLR : Hid (LX w X0 lr [.string ⟨#[]⟩, .int .i64 0, .bool false]) := Lib.hid ⟨by omega, by rw [← hlr]; exact vx⟩
  have HD0 : Hid (DB w X0 b r (rdC c0 (.slice A0 n0 cc0) o0 l0 q0)) := Lib.hid ⟨hbel, by omega, by omega, by rw [← hb]; exact ((va.below bb).below bc).below bx, by rw [← hr]; exact vc.below bx⟩
  have m1 : ¬ b = r := by omega
  have m2 : ¬ r = b := by omega
  have m3 : ¬ b = lb := by omega
  have m4 : ¬ lb = b := by omega
  have m5 : ¬ b = lr := by omega
  have m6 : ¬ lr = b := by omega
  have m7 : ¬ r = lb := by omega
  have m8 : ¬ lb = r := by omega
  have m9 : ¬ r = lr := by omega
  have m10 : ¬ lr = r := by omega
  have m11 : ¬ lb = lr := by omega
  have m12 : ¬ lr = lb := by omega
  have HR0 : Hid (Rd X0 (.agg #[.int .i64 (c0 : Int), .slice A0 n0 cc0, .bool o0, .int .i64 (l0 : Int), .int .i64 q0]) ⟨c0, D0, o0, l0, q0⟩) := Lib.hid (h.later HD0.out.below)
  have HO0 : Hid (vd.Ok ⟨c0, D0, o0, l0, q0⟩) := Lib.hid ho
  have HF0 : Hid (vd.Few ⟨c0, D0, o0, l0, q0⟩) := Lib.hid hf
  have HV := Lib.hid (hv.below hbel)
  have hmn2 : mn ≤ 1000000000 := hmn
  have HNM : Hid (nm.length ≤ 200) := Lib.hid hn
  have HLL := Lib.hid (And.intro hfl htl)
  have HTN := Lib.hid htn
  clear ba bb bc bx sa sb sc va vb vc vx h ho hf hv hbel hcells hmn hn hfl htn
  obtain ⟨p0, p1, p2, p3, p4, z0, z1, z2, z3, z4⟩ := HD0.out.one.five
  obtain ⟨y0, y1, y2, y3, y4, s0, s1, s2, s3, s4⟩ := HD0.out.res.five
  obtain ⟨g0, g1, g2, t0, t1, t2⟩ := HLB.out.one.three; obtain ⟨h0, h1, h2, x0, x1, x2⟩ := HLR.out.one.three
  have hjo := rd_joined (.slice Av tn cv) ls X0 HV.out HLL.out.1 HLL.out.2
  unfold lgA
  obtain ⟨⟨s, e0⟩, hbs⟩ : ∃ x, wl.bytes ls = x := ⟨_, rfl⟩
  rw [hbs] at hjo
  have HBS := Lib.hid hbs
  clear hbs
  cases hof : of with
  | true =>
    subst hof
    have HE : Hid (wl.reset ⟨c0, D0, o0, l0, q0⟩ ⟨nm, mn, true⟩ ls = (⟨c0, D0, o0, l0, q0⟩, ⟨nm, mn, true⟩, 6)) := Lib.hid rfl
    clear hjo
    go_enter Tryd.func22, Tryd.ntmps22
    have HRET := Lib.hid (HD0.out.ret2d HLR.out m10 c0 (.slice A0 n0 cc0) o0 l0 q0 nm mn true)
    have HRR := Lib.hid (HR0.out.ret2 HD0.out HLR.out m10 c0 (.slice A0 n0 cc0) o0 l0 q0 nm mn true)
    go_wp2_with fail
    clear z0 z1 z2 z3 z4 t0 t1 t2 hWa hWb hWc hX0 hb hlb hr hlr htl hmn2
    go_region
    all_goals
      go_wp2_with fail
      refine bodyPost_ret (results_c2t rfl _ _ r lr _ _ _ _ (0, 0) (0, 0) _ _ rfl HRET.out.1 Tryd.underlying45 rfl rd_dsize rfl HRET.out.2.1 Tryd.underlying47 rfl rl_size) rfl ?_
      rw [HE.out]
      exact ⟨_, rfl, HRR.out.drew, HRET.out.2.2⟩
  | false =>
    subst hof
    go_enter Tryd.func22, Tryd.ntmps22
    go_wp2_with fail
    refine hjo.mono ?_
    rintro e X0 ⟨rfl, bj⟩
    have HD0 := Lib.hid (HD0.out.later bj)
    have HR0 : Hid (Rd X0 (.agg #[.int .i64 (c0 : Int), .slice A0 n0 cc0, .bool o0, .int .i64 (l0 : Int), .int .i64 q0]) ⟨c0, D0, o0, l0, q0⟩) := Lib.hid (HR0.out.later bj)
    have HLB := Lib.hid (HLB.out.later bj)
    have HLR := Lib.hid (HLR.out.later bj)
    clear p0 p1 p2 p3 p4 z0 z1 z2 z3 z4 y0 y1 y2 y3 y4 s0 s1 s2 s3 s4 g0 g1 g2 t0 t1 t2 h0 h1 h2 x0 x1 x2 hjo bj
    obtain ⟨p0, p1, p2, p3, p4, z0, z1, z2, z3, z4⟩ := HD0.out.one.five
    obtain ⟨y0, y1, y2, y3, y4, s0, s1, s2, s3, s4⟩ := HD0.out.res.five
    obtain ⟨g0, g1, g2, t0, t1, t2⟩ := HLB.out.one.three; obtain ⟨h0, h1, h2, x0, x1, x2⟩ := HLR.out.one.three
    by_cases h00 : e0 = 0
    · subst h00
      have HSL : Hid (s.length ≤ 1000000000) := Lib.hid (by have h := HBS.out; unfold wl.bytes at h; have h2 := HLL.out.1; split at h <;> cases h; exact h2)
      have HG : Hid (wl.reset ⟨c0, D0, o0, l0, q0⟩ ⟨nm, mn, false⟩ ls = ((wl.write ⟨c0, D0, o0, l0, q0⟩ nm s).1, wl.told ⟨nm, mn, false⟩ (wl.write ⟨c0, D0, o0, l0, q0⟩ nm s).2 tn, (wl.write ⟨c0, D0, o0, l0, q0⟩ nm s).2)) := Lib.hid (by unfold wl.reset wl.change; rw [HBS.out, HTN.out]; rfl)
      simp only [decide_true]
      have hc : Calls Tryd.prog 47 #[.agg #[.int .i64 (c0 : Int), .slice A0 n0 cc0, .bool o0, .int .i64 (l0 : Int), .int .i64 q0], .string (crcm.mk nm), .string (crcm.mk s)] X0 (RdTo X0 (wl.write ⟨c0, D0, o0, l0, q0⟩ nm s)) := rd_write nm s HR0.out HO0.out HF0.out HNM.out HSL.out
      have hok := wl.ok_write HO0.out nm s
      have hfw := wl.few_write HF0.out nm s
      go_wp2_with fail
      refine hc.mono ?_
      rintro e w1 ⟨v1, rfl, hR, b1⟩
      clear p0 p1 p2 p3 p4 z0 z1 z2 z3 z4 y0 y1 y2 y3 y4 s0 s1 s2 s3 s4 hc
      obtain ⟨e1, he1⟩ : ∃ x, (wl.write ⟨c0, D0, o0, l0, q0⟩ nm s).2 = x := ⟨_, rfl⟩
      obtain ⟨⟨c1, D1, o1, l1, q1⟩, hd⟩ : ∃ x, (wl.write ⟨c0, D0, o0, l0, q0⟩ nm s).1 = x := ⟨_, rfl⟩
      have HEQ1 : Hid (wl.write ⟨c0, D0, o0, l0, q0⟩ nm s = (⟨c1, D1, o1, l1, q1⟩, e1)) := Lib.hid (Prod.ext hd he1)
      rw [hd] at hR hok hfw
      rw [he1]
      obtain ⟨A1, n1, cc1, rfl⟩ := hR.form
      have hdb := HD0.out.later b1
      obtain ⟨p0, p1, p2, p3, p4, z0, z1, z2, z3, z4⟩ := hdb.one.five; obtain ⟨y0, y1, y2, y3, y4, s0, s1, s2, s3, s4⟩ := hdb.res.five
      have hR2 := hR.put hdb.one c1 (.slice A1 n1 cc1) o1 l1 q1
      have hdb2 := hdb.store c1 (.slice A1 n1 cc1) o1 l1 q1
      have hlb2 := (HLB.out.later b1).put m4 c1 (.slice A1 n1 cc1) o1 l1 q1
      have hlr2 := (HLR.out.later b1).put m6 c1 (.slice A1 n1 cc1) o1 l1 q1
      obtain ⟨u0, u1, u2, _⟩ := (HLB.out.later b1).one.three
      clear g0 g1 g2 t0 t1 t2 h0 h1 h2 x0 x1 x2
      obtain ⟨X1, hX⟩ : ∃ X, put5 w1 b c1 (.slice A1 n1 cc1) o1 l1 q1 = X := ⟨_, rfl⟩
      rw [hX] at hR2 hdb2 hlb2 hlr2
      have HLB := Lib.hid hlb2
      have HLR := Lib.hid hlr2
      have HX := Lib.hid hX
      have HR1 : Hid (Rd X1 (.agg #[.int .i64 (c1 : Int), .slice A1 n1 cc1, .bool o1, .int .i64 (l1 : Int), .int .i64 q1]) ⟨c1, D1, o1, l1, q1⟩) := Lib.hid hR2
      have HD1 := Lib.hid hdb2
      have HO1 := Lib.hid hok
      have HF1 := Lib.hid hfw
      clear b1 he1 hd hR hdb hR2 hdb2 hok hfw hX hlb2 hlr2
      go_upto_region 7 with fail
      have hX := HX.out
      unfold put5 at hX
      rw [hX]
      clear hX p0 p1 p2 p3 p4 z0 z1 z2 z3 z4 y0 y1 y2 y3 y4 s0 s1 s2 s3 s4 u0 u1 u2
      obtain ⟨g0, g1, g2, t0, t1, t2⟩ := HLB.out.one.three; obtain ⟨h0, h1, h2, x0, x1, x2⟩ := HLR.out.one.three
      obtain ⟨p0, p1, p2, p3, p4, z0, z1, z2, z3, z4⟩ := HD1.out.one.five
      obtain ⟨y0, y1, y2, y3, y4, s0, s1, s2, s3, s4⟩ := HD1.out.res.five
      rw [HEQ1.out] at HG
      go_wp2_with fail
      have MK : Hid (∀ w', Below X1.heap.size X1 w' → w'.cell? ⟨b, 0, none⟩ = some (.int .i64 (c1 : Int)) ∧ w'.cell? ⟨b, 1, none⟩ = some (.slice A1 n1 cc1) ∧ w'.cell? ⟨b, 2, none⟩ = some (.bool o1) ∧ w'.cell? ⟨b, 3, none⟩ = some (.int .i64 (l1 : Int)) ∧ w'.cell? ⟨b, 4, none⟩ = some (.int .i64 q1) ∧ w'.cell? ⟨lb, 0, none⟩ = some (.string (crcm.mk nm)) ∧ w'.cell? ⟨lb, 1, none⟩ = some (.int .i64 (mn : Int)) ∧ w'.cell? ⟨lb, 2, none⟩ = some (.bool false)) := Lib.hid fun w' hb => by
        obtain ⟨a0, a1, a2, a3, a4, _⟩ := (HD1.out.later hb).one.five
        obtain ⟨a5, a6, a7, _⟩ := (HLB.out.later hb).one.three
        exact ⟨a0, a1, a2, a3, a4, a5, a6, a7⟩
      have MKr : Hid (∀ (w' : World) (j : Nat) (u : Value), (w'.cell? ⟨b, 0, none⟩ = some (.int .i64 (c1 : Int)) ∧ w'.cell? ⟨b, 1, none⟩ = some (.slice A1 n1 cc1) ∧ w'.cell? ⟨b, 2, none⟩ = some (.bool o1) ∧ w'.cell? ⟨b, 3, none⟩ = some (.int .i64 (l1 : Int)) ∧ w'.cell? ⟨b, 4, none⟩ = some (.int .i64 q1) ∧ w'.cell? ⟨lb, 0, none⟩ = some (.string (crcm.mk nm)) ∧ w'.cell? ⟨lb, 1, none⟩ = some (.int .i64 (mn : Int)) ∧ w'.cell? ⟨lb, 2, none⟩ = some (.bool false)) → (w'.setCell ⟨r, j, none⟩ u).cell? ⟨b, 0, none⟩ = some (.int .i64 (c1 : Int)) ∧ (w'.setCell ⟨r, j, none⟩ u).cell? ⟨b, 1, none⟩ = some (.slice A1 n1 cc1) ∧ (w'.setCell ⟨r, j, none⟩ u).cell? ⟨b, 2, none⟩ = some (.bool o1) ∧ (w'.setCell ⟨r, j, none⟩ u).cell? ⟨b, 3, none⟩ = some (.int .i64 (l1 : Int)) ∧ (w'.setCell ⟨r, j, none⟩ u).cell? ⟨b, 4, none⟩ = some (.int .i64 q1) ∧ (w'.setCell ⟨r, j, none⟩ u).cell? ⟨lb, 0, none⟩ = some (.string (crcm.mk nm)) ∧ (w'.setCell ⟨r, j, none⟩ u).cell? ⟨lb, 1, none⟩ = some (.int .i64 (mn : Int)) ∧ (w'.setCell ⟨r, j, none⟩ u).cell? ⟨lb, 2, none⟩ = some (.bool false)) := Lib.hid fun w' j u hS => by
        have hne : ∀ x k, ¬ x = r → (w'.setCell ⟨r, j, none⟩ u).cell? ⟨x, k, none⟩ = w'.cell? ⟨x, k, none⟩ := fun x k hx => World.cell?_setCell_far w' _ _ u (fun h => hx h.symm)
        rw [hne b, hne b, hne b, hne b, hne b, hne lb, hne lb, hne lb] <;> first | exact hS | exact m1 | exact m8
      have MKl : Hid (∀ (w' : World) (j : Nat) (u : Value), (w'.cell? ⟨b, 0, none⟩ = some (.int .i64 (c1 : Int)) ∧ w'.cell? ⟨b, 1, none⟩ = some (.slice A1 n1 cc1) ∧ w'.cell? ⟨b, 2, none⟩ = some (.bool o1) ∧ w'.cell? ⟨b, 3, none⟩ = some (.int .i64 (l1 : Int)) ∧ w'.cell? ⟨b, 4, none⟩ = some (.int .i64 q1) ∧ w'.cell? ⟨lb, 0, none⟩ = some (.string (crcm.mk nm)) ∧ w'.cell? ⟨lb, 1, none⟩ = some (.int .i64 (mn : Int)) ∧ w'.cell? ⟨lb, 2, none⟩ = some (.bool false)) → (w'.setCell ⟨lr, j, none⟩ u).cell? ⟨b, 0, none⟩ = some (.int .i64 (c1 : Int)) ∧ (w'.setCell ⟨lr, j, none⟩ u).cell? ⟨b, 1, none⟩ = some (.slice A1 n1 cc1) ∧ (w'.setCell ⟨lr, j, none⟩ u).cell? ⟨b, 2, none⟩ = some (.bool o1) ∧ (w'.setCell ⟨lr, j, none⟩ u).cell? ⟨b, 3, none⟩ = some (.int .i64 (l1 : Int)) ∧ (w'.setCell ⟨lr, j, none⟩ u).cell? ⟨b, 4, none⟩ = some (.int .i64 q1) ∧ (w'.setCell ⟨lr, j, none⟩ u).cell? ⟨lb, 0, none⟩ = some (.string (crcm.mk nm)) ∧ (w'.setCell ⟨lr, j, none⟩ u).cell? ⟨lb, 1, none⟩ = some (.int .i64 (mn : Int)) ∧ (w'.setCell ⟨lr, j, none⟩ u).cell? ⟨lb, 2, none⟩ = some (.bool false)) := Lib.hid fun w' j u hS => by
        have hne : ∀ x k, ¬ x = lr → (w'.setCell ⟨lr, j, none⟩ u).cell? ⟨x, k, none⟩ = w'.cell? ⟨x, k, none⟩ := fun x k hx => World.cell?_setCell_far w' _ _ u (fun h => hx h.symm)
        rw [hne b, hne b, hne b, hne b, hne b, hne lb, hne lb, hne lb] <;> first | exact hS | exact m5 | exact m11
      have MKd : Hid (∀ (w' : World), (w'.cell? ⟨b, 0, none⟩ = some (.int .i64 (c1 : Int)) ∧ w'.cell? ⟨b, 1, none⟩ = some (.slice A1 n1 cc1) ∧ w'.cell? ⟨b, 2, none⟩ = some (.bool o1) ∧ w'.cell? ⟨b, 3, none⟩ = some (.int .i64 (l1 : Int)) ∧ w'.cell? ⟨b, 4, none⟩ = some (.int .i64 q1) ∧ w'.cell? ⟨lb, 0, none⟩ = some (.string (crcm.mk nm)) ∧ w'.cell? ⟨lb, 1, none⟩ = some (.int .i64 (mn : Int)) ∧ w'.cell? ⟨lb, 2, none⟩ = some (.bool false)) → w'.drew.cell? ⟨b, 0, none⟩ = some (.int .i64 (c1 : Int)) ∧ w'.drew.cell? ⟨b, 1, none⟩ = some (.slice A1 n1 cc1) ∧ w'.drew.cell? ⟨b, 2, none⟩ = some (.bool o1) ∧ w'.drew.cell? ⟨b, 3, none⟩ = some (.int .i64 (l1 : Int)) ∧ w'.drew.cell? ⟨b, 4, none⟩ = some (.int .i64 q1) ∧ w'.drew.cell? ⟨lb, 0, none⟩ = some (.string (crcm.mk nm)) ∧ w'.drew.cell? ⟨lb, 1, none⟩ = some (.int .i64 (mn : Int)) ∧ w'.drew.cell? ⟨lb, 2, none⟩ = some (.bool false)) := Lib.hid fun w' hS => hS
      have MK0 := Lib.hid (MK.out X1 (Below.refl _ X1))
      have hW : Below X1.heap.size X1 X1.drew := below_drewN (Below.refl _ X1) 1
      have htold : ∀ w', Calls Tryd.prog 51 #[.agg #[.string (crcm.mk nm), .int .i64 (mn : Int), .bool false], .int .i64 (e1 : Int), .int .i64 ((tn : Nat) : Int)] w' (fun e w2 => e = .returned (.agg #[.string (crcm.mk (wl.told ⟨nm, mn, false⟩ e1 (tn)).name), .int .i64 ((wl.told ⟨nm, mn, false⟩ e1 (tn)).many : Int), .bool (wl.told ⟨nm, mn, false⟩ e1 (tn)).off]) ∧ Below w'.heap.size w' w2) := fun w' => rd_told ⟨nm, mn, false⟩ e1 (tn) w'
      obtain ⟨⟨nm2, mn2, of2⟩, htl2⟩ : ∃ x, wl.told ⟨nm, mn, false⟩ e1 (tn) = x := ⟨_, rfl⟩
      rw [htl2] at htold
      have HTL2 := Lib.hid htl2
      have HTO := Lib.hid htold
      clear htold htl2 y0 y1 y2 y3 y4 s0 s1 s2 s3 s4 g0 g1 g2 t0 t1 t2 h0 h1 h2 x0 x1 x2 hWa hWb hWc hX0 hb hlb hr hlr htl
      go_region_held3 (fun w' => w'.cell? ⟨b, 0, none⟩ = some (.int .i64 (c1 : Int)) ∧ w'.cell? ⟨b, 1, none⟩ = some (.slice A1 n1 cc1) ∧ w'.cell? ⟨b, 2, none⟩ = some (.bool o1) ∧ w'.cell? ⟨b, 3, none⟩ = some (.int .i64 (l1 : Int)) ∧ w'.cell? ⟨b, 4, none⟩ = some (.int .i64 q1) ∧ w'.cell? ⟨lb, 0, none⟩ = some (.string (crcm.mk nm)) ∧ w'.cell? ⟨lb, 1, none⟩ = some (.int .i64 (mn : Int)) ∧ w'.cell? ⟨lb, 2, none⟩ = some (.bool false))
        (repeat (first | with_reducible exact MK0.out | with_reducible exact MK.out _ hW | with_reducible refine MKr.out _ _ _ ?_ | with_reducible refine MKl.out _ _ _ ?_ | with_reducible refine MKd.out _ ?_))
        (first | (go_at_call 51; refine (HTO.out _).mono ?_; rintro e w10 ⟨rfl, hb⟩; have hW := hW.trans (hb.mono hW.size); obtain ⟨y0, y1, y2, y3, y4, s0, s1, s2, s3, s4⟩ := (HD1.out.later hW).res.five; obtain ⟨h0, h1, h2, x0, x1, x2⟩ := (HLR.out.later hW).one.three))
      all_goals
        have HRET := Lib.hid ((HD1.out.later hW).ret2 (HLR.out.later hW) m10 c1 (.slice A1 n1 cc1) o1 l1 q1 nm2 mn2 of2)
        have HRR := Lib.hid ((HR1.out.later hW).ret2 (HD1.out.later hW) (HLR.out.later hW) m10 c1 (.slice A1 n1 cc1) o1 l1 q1 nm2 mn2 of2)
        go_wp2_with fail
        refine bodyPost_ret (results_c2t rfl _ _ r lr _ _ _ _ (0, 0) (0, 0) _ _ rfl HRET.out.1 Tryd.underlying45 rfl rd_dsize rfl HRET.out.2.1 Tryd.underlying47 rfl rl_size) rfl ?_
        rw [HG.out]
        exact ⟨_, by rw [HTL2.out]; rfl, HRR.out, HRET.out.2.2⟩
    · have HE71 : Hid (e0 = 71) := Lib.hid (by have h := HBS.out; unfold wl.bytes at h; split at h <;> cases h; exact absurd rfl h00; rfl)
      have HE : Hid (wl.reset ⟨c0, D0, o0, l0, q0⟩ ⟨nm, mn, false⟩ ls = (⟨c0, D0, o0, l0, q0⟩, ⟨nm, mn, false⟩, 71)) := Lib.hid (by unfold wl.reset wl.change; rw [HBS.out, HE71.out]; rfl)
      simp only [decide_eq_false h00]
      have HRET := Lib.hid (HD0.out.ret2d HLR.out m10 c0 (.slice A0 n0 cc0) o0 l0 q0 nm mn false)
      have HRR := Lib.hid (HR0.out.ret2 HD0.out HLR.out m10 c0 (.slice A0 n0 cc0) o0 l0 q0 nm mn false)
      go_wp2_with fail
      clear z0 z1 z2 z3 z4 t0 t1 t2 hWa hWb hWc hX0 hb hlb hr hlr htl hmn2
      go_region
      all_goals
        go_wp2_with fail
        refine bodyPost_ret (results_c2t rfl _ _ r lr _ _ _ _ (0, 0) (0, 0) _ _ rfl HRET.out.1 Tryd.underlying45 rfl rd_dsize rfl HRET.out.2.1 Tryd.underlying47 rfl rl_size) rfl ?_
        rw [HE.out]
        exact ⟨_, rfl, HRR.out.drew, HRET.out.2.2⟩
end
section
open Go Go.RowKit
set_option maxRecDepth 100000

set_option maxHeartbeats 16000000 in
theorem rd_lappend {w : World} {v u : Value} {d : vd.Disk} (l : wl.L) (ls : List (List UInt8)) (h : Rd w v d) (ho : vd.Ok d) (hf : vd.Few d) (hv : Strs w u ls) (hn : l.name.length ≤ 200) (hmn : l.many ≤ 1000000000) (htl : ls.length ≤ 1000000000) (hfl : (crcm.flat ls).length ≤ 1000000000) :
    Calls Tryd.prog 21 #[v, lgA l, u] w (LgTo w (wl.append d l ls)) := by
  obtain ⟨A0, n0, cc0, rfl⟩ := h.form
  obtain ⟨c0, D0, o0, l0, q0⟩ := d
  obtain ⟨nm, mn, of⟩ := l
  obtain ⟨Av, cv, rfl, hcells⟩ := hv
  obtain ⟨tn, htn⟩ : ∃ x, ls.length = x := ⟨_, rfl⟩
  have hv : Strs w (.slice Av tn cv) ls := ⟨Av, cv, by rw [htn], hcells⟩
  rw [htn]
  obtain ⟨Wa, hWa⟩ : ∃ W, w.alloc (.cells #[.int .i64 (c0 : Int), .slice A0 n0 cc0, .bool o0, .int .i64 (l0 : Int), .int .i64 q0] 45) = W := ⟨_, rfl⟩
  obtain ⟨Wb, hWb⟩ : ∃ W, Wa.alloc (.cells #[.string (crcm.mk nm), .int .i64 (mn : Int), .bool of] 47) = W := ⟨_, rfl⟩
  obtain ⟨Wc, hWc⟩ : ∃ W, Wb.alloc (.cells #[.int .i64 0, .slice none 0 0, .bool false, .int .i64 0, .int .i64 0] 45) = W := ⟨_, rfl⟩
  obtain ⟨X0, hX0⟩ : ∃ W, Wc.alloc (.cells #[.string ⟨#[]⟩, .int .i64 0, .bool false] 47) = W := ⟨_, rfl⟩
  have ba : Below w.heap.size w Wa := by rw [← hWa]; exact (Below.refl _ w).alloc (Nat.le_refl _) _
  have bb : Below Wa.heap.size Wa Wb := by rw [← hWb]; exact (Below.refl _ Wa).alloc (Nat.le_refl _) _
  have bc : Below Wb.heap.size Wb Wc := by rw [← hWc]; exact (Below.refl _ Wb).alloc (Nat.le_refl _) _
  have bx : Below Wc.heap.size Wc X0 := by rw [← hX0]; exact (Below.refl _ Wc).alloc (Nat.le_refl _) _
  have sa : Wa.heap.size = w.heap.size + 1 := by rw [← hWa]; exact Array.size_push _
  have sb : Wb.heap.size = Wa.heap.size + 1 := by rw [← hWb]; exact Array.size_push _
  have sc : Wc.heap.size = Wb.heap.size + 1 := by rw [← hWc]; exact Array.size_push _
  have va : Vb Wa w.heap.size (rdC c0 (.slice A0 n0 cc0) o0 l0 q0) 45 := by rw [← hWa]; exact Vb.new w _ _
  have vb : Vb Wb Wa.heap.size [.string (crcm.mk nm), .int .i64 (mn : Int), .bool of] 47 := by rw [← hWb]; exact Vb.new Wa _ _
  have vc : Vb Wc Wb.heap.size [.int .i64 0, .slice none 0 0, .bool false, .int .i64 0, .int .i64 0] 45 := by rw [← hWc]; exact Vb.new Wb _ _
  have vx : Vb X0 Wc.heap.size [.string ⟨#[]⟩, .int .i64 0, .bool false] 47 := by rw [← hX0]; exact Vb.new Wc _ _
  obtain ⟨b, hb⟩ : ∃ x, w.heap.size = x := ⟨_, rfl⟩
  obtain ⟨lb, hlb⟩ : ∃ x, Wa.heap.size = x := ⟨_, rfl⟩
  obtain ⟨r, hr⟩ : ∃ x, Wb.heap.size = x := ⟨_, rfl⟩
  obtain ⟨lr, hlr⟩ : ∃ x, Wc.heap.size = x := ⟨_, rfl⟩
  have hbel : Below w.heap.size w X0 := ((ba.trans (bb.mono (by omega))).trans (bc.mono (by omega))).trans (bx.mono (by omega))
  have HLB : Hid (LX w X0 lb [.string (crcm.mk nm), .int .i64 (mn : Int), .bool of]) := Lib.hid ⟨by omega, by rw [← hlb]; exact (vb.below bc).below bx⟩
  have HLR : Hid (LX w X0 lr [.string ⟨#[]⟩, .int .i64 0, .bool false]) := Lib.hid ⟨by omega, by rw [← hlr]; exact vx⟩
  have HD0 : Hid (DB w X0 b r (rdC c0 (.slice A0 n0 cc0) o0 l0 q0)) := Lib.hid ⟨hbel, by omega, by omega, by rw [← hb]; exact ((va.below bb).below bc).below bx, by rw [← hr]; exact vc.below bx⟩
  have m1 : ¬ b = r := by omega
  have m2 : ¬ r = b := by omega
  have m3 : ¬ b = lb := by omega
  have m4 : ¬ lb = b := by omega
  have m5 : ¬ b = lr := by omega
  have m6 : ¬ lr = b := by omega
  have m7 : ¬ r = lb := by omega
  have m8 : ¬ lb = r := by omega
  have m9 : ¬ r = lr := by omega
  have m10 : ¬ lr = r := by omega
  have m11 : ¬ lb = lr := by omega
  have m12 : ¬ lr = lb := by omega
  have HR0 : Hid (Rd X0 (.agg #[.int .i64 (c0 : Int), .slice A0 n0 cc0, .bool o0, .int .i64 (l0 : Int), .int .i64 q0]) ⟨c0, D0, o0, l0, q0⟩) := Lib.hid (h.later HD0.out.below)
  have HO0 : Hid (vd.Ok ⟨c0, D0, o0, l0, q0⟩) := Lib.hid ho
  have HF0 : Hid (vd.Few ⟨c0, D0, o0, l0, q0⟩) := Lib.hid hf
  have HV := Lib.hid (hv.below hbel)
  have hmn2 : mn ≤ 1000000000 := hmn
  have HNM : Hid (nm.length ≤ 200) := Lib.hid hn
  have HLL := Lib.hid (And.intro hfl htl)
  have HTN := Lib.hid htn
  clear ba bb bc bx sa sb sc va vb vc vx h ho hf hv hbel hcells hmn hn hfl htn
  obtain ⟨p0, p1, p2, p3, p4, z0, z1, z2, z3, z4⟩ := HD0.out.one.five
  obtain ⟨y0, y1, y2, y3, y4, s0, s1, s2, s3, s4⟩ := HD0.out.res.five
  obtain ⟨g0, g1, g2, t0, t1, t2⟩ := HLB.out.one.three; obtain ⟨h0, h1, h2, x0, x1, x2⟩ := HLR.out.one.three
  have hjo := rd_joined (.slice Av tn cv) ls X0 HV.out HLL.out.1 HLL.out.2
  unfold lgA
  obtain ⟨⟨s, e0⟩, hbs⟩ : ∃ x, wl.bytes ls = x := ⟨_, rfl⟩
  rw [hbs] at hjo
  have HBS := Lib.hid hbs
  clear hbs
  have HNX : Hid (nm.length ≤ maxLen) := Lib.hid (by have := HNM.out; unfold maxLen; omega)
  cases hof : of with
  | true =>
    subst hof
    have HE : Hid (wl.append ⟨c0, D0, o0, l0, q0⟩ ⟨nm, mn, true⟩ ls = (⟨c0, D0, o0, l0, q0⟩, ⟨nm, mn, true⟩, 6)) := Lib.hid rfl
    clear hjo
    go_enter Tryd.func21, Tryd.ntmps21
    have HRET := Lib.hid (HD0.out.ret2d HLR.out m10 c0 (.slice A0 n0 cc0) o0 l0 q0 nm mn true)
    have HRR := Lib.hid (HR0.out.ret2 HD0.out HLR.out m10 c0 (.slice A0 n0 cc0) o0 l0 q0 nm mn true)
    go_wp2_with fail
    clear z0 z1 z2 z3 z4 t0 t1 t2 hWa hWb hWc hX0 hb hlb hr hlr htl hmn2
    go_region
    all_goals
      go_wp2_with fail
      refine bodyPost_ret (results_c2t rfl _ _ r lr _ _ _ _ (0, 0) (0, 0) _ _ rfl HRET.out.1 Tryd.underlying45 rfl rd_dsize rfl HRET.out.2.1 Tryd.underlying47 rfl rl_size) rfl ?_
      rw [HE.out]
      exact ⟨_, rfl, HRR.out.drew, HRET.out.2.2⟩
  | false =>
    subst hof
    go_enter Tryd.func21, Tryd.ntmps21
    go_wp2_with fail
    refine hjo.mono ?_
    rintro e X0 ⟨rfl, bj⟩
    have HD0 := Lib.hid (HD0.out.later bj)
    have HR0 : Hid (Rd X0 (.agg #[.int .i64 (c0 : Int), .slice A0 n0 cc0, .bool o0, .int .i64 (l0 : Int), .int .i64 q0]) ⟨c0, D0, o0, l0, q0⟩) := Lib.hid (HR0.out.later bj)
    have HLB := Lib.hid (HLB.out.later bj)
    have HLR := Lib.hid (HLR.out.later bj)
    clear p0 p1 p2 p3 p4 z0 z1 z2 z3 z4 y0 y1 y2 y3 y4 s0 s1 s2 s3 s4 g0 g1 g2 t0 t1 t2 h0 h1 h2 x0 x1 x2 hjo bj
    obtain ⟨p0, p1, p2, p3, p4, z0, z1, z2, z3, z4⟩ := HD0.out.one.five
    obtain ⟨y0, y1, y2, y3, y4, s0, s1, s2, s3, s4⟩ := HD0.out.res.five
    obtain ⟨g0, g1, g2, t0, t1, t2⟩ := HLB.out.one.three; obtain ⟨h0, h1, h2, x0, x1, x2⟩ := HLR.out.one.three
    by_cases h00 : e0 = 0
    · subst h00
      have HSL : Hid (s.length ≤ 1000000000) := Lib.hid (by have h := HBS.out; unfold wl.bytes at h; have h2 := HLL.out.1; split at h <;> cases h; exact h2)
      obtain ⟨tot, htot⟩ : ∃ x, mn + tn = x := ⟨_, rfl⟩
      have hsum : IntKind.i64.wrap ((mn : Int) + (tn : Int)) = (tot : Int) := by rw [IntKind.wrap_i64]; have := HLL.out.2; rw [HTN.out] at this; omega
      have HG : Hid (wl.append ⟨c0, D0, o0, l0, q0⟩ ⟨nm, mn, false⟩ ls = ((wl.run (wl.appendOps nm s) ⟨c0, D0, o0, l0, q0⟩).1, wl.told ⟨nm, mn, false⟩ (wl.run (wl.appendOps nm s) ⟨c0, D0, o0, l0, q0⟩).2 tot, (wl.run (wl.appendOps nm s) ⟨c0, D0, o0, l0, q0⟩).2)) := Lib.hid (by unfold wl.append wl.change; rw [HBS.out, HTN.out, ← htot]; rfl)
      clear htot
      simp only [decide_true]
      have hc : Calls Tryd.prog 50 #[.agg #[.int .i64 (c0 : Int), .slice A0 n0 cc0, .bool o0, .int .i64 (l0 : Int), .int .i64 q0], .string (crcm.mk nm), .string (crcm.mk s)] X0 (RdTo X0 (vd.append ⟨c0, D0, o0, l0, q0⟩ nm s)) := use_append HR0.out HO0.out HF0.out nm HNX.out s HSL.out
      have hok := vd.ok_append HO0.out nm s
      have hfw := vd.few_append HF0.out nm s
      go_wp2_with fail
      refine hc.mono ?_
      rintro e w1 ⟨v1, rfl, hR, b1⟩
      clear p0 p1 p2 p3 p4 z0 z1 z2 z3 z4 y0 y1 y2 y3 y4 s0 s1 s2 s3 s4 hc
      obtain ⟨e1, he1⟩ : ∃ x, (vd.append ⟨c0, D0, o0, l0, q0⟩ nm s).2 = x := ⟨_, rfl⟩
      obtain ⟨⟨c1, D1, o1, l1, q1⟩, hd⟩ : ∃ x, (vd.append ⟨c0, D0, o0, l0, q0⟩ nm s).1 = x := ⟨_, rfl⟩
      have HEQ1 : Hid (vd.append ⟨c0, D0, o0, l0, q0⟩ nm s = (⟨c1, D1, o1, l1, q1⟩, e1)) := Lib.hid (Prod.ext hd he1)
      rw [hd] at hR hok hfw
      rw [he1]
      obtain ⟨A1, n1, cc1, rfl⟩ := hR.form
      have hdb := HD0.out.later b1
      obtain ⟨p0, p1, p2, p3, p4, z0, z1, z2, z3, z4⟩ := hdb.one.five; obtain ⟨y0, y1, y2, y3, y4, s0, s1, s2, s3, s4⟩ := hdb.res.five
      have hR2 := hR.put hdb.one c1 (.slice A1 n1 cc1) o1 l1 q1
      have hdb2 := hdb.store c1 (.slice A1 n1 cc1) o1 l1 q1
      have hlb2 := (HLB.out.later b1).put m4 c1 (.slice A1 n1 cc1) o1 l1 q1
      have hlr2 := (HLR.out.later b1).put m6 c1 (.slice A1 n1 cc1) o1 l1 q1
      obtain ⟨u0, u1, u2, _⟩ := (HLB.out.later b1).one.three
      clear g0 g1 g2 t0 t1 t2 h0 h1 h2 x0 x1 x2
      obtain ⟨X1, hX⟩ : ∃ X, put5 w1 b c1 (.slice A1 n1 cc1) o1 l1 q1 = X := ⟨_, rfl⟩
      rw [hX] at hR2 hdb2 hlb2 hlr2
      have HLB := Lib.hid hlb2
      have HLR := Lib.hid hlr2
      have HX := Lib.hid hX
      have HR1 : Hid (Rd X1 (.agg #[.int .i64 (c1 : Int), .slice A1 n1 cc1, .bool o1, .int .i64 (l1 : Int), .int .i64 q1]) ⟨c1, D1, o1, l1, q1⟩) := Lib.hid hR2
      have HD1 := Lib.hid hdb2
      have HO1 := Lib.hid hok
      have HF1 := Lib.hid hfw
      clear b1 he1 hd hR hdb hR2 hdb2 hok hfw hX hlb2 hlr2
      go_upto_region 7 with fail
      have hX := HX.out
      unfold put5 at hX
      rw [hX]
      clear hX p0 p1 p2 p3 p4 z0 z1 z2 z3 z4 y0 y1 y2 y3 y4 s0 s1 s2 s3 s4 u0 u1 u2
      obtain ⟨g0, g1, g2, t0, t1, t2⟩ := HLB.out.one.three; obtain ⟨h0, h1, h2, x0, x1, x2⟩ := HLR.out.one.three
      obtain ⟨p0, p1, p2, p3, p4, z0, z1, z2, z3, z4⟩ := HD1.out.one.five
      obtain ⟨y0, y1, y2, y3, y4, s0, s1, s2, s3, s4⟩ := HD1.out.res.five
      by_cases h1 : e1 = 0
      · subst h1
        have hc : Calls Tryd.prog 48 #[.agg #[.int .i64 (c1 : Int), .slice A1 n1 cc1, .bool o1, .int .i64 (l1 : Int), .int .i64 q1], .string (crcm.mk nm)] X1 (RdTo X1 (vd.sync ⟨c1, D1, o1, l1, q1⟩ nm)) := use_sync HR1.out HO1.out HF1.out nm HNX.out
        have hok := vd.ok_sync HO1.out nm
        have hfw := vd.few_sync HF1.out nm
        go_wp2_with fail
        refine hc.mono ?_
        rintro e w2 ⟨v2, rfl, hR, b2⟩
        clear p0 p1 p2 p3 p4 z0 z1 z2 z3 z4 y0 y1 y2 y3 y4 s0 s1 s2 s3 s4 hc
        obtain ⟨e2, he2⟩ : ∃ x, (vd.sync ⟨c1, D1, o1, l1, q1⟩ nm).2 = x := ⟨_, rfl⟩
        obtain ⟨⟨c2, D2, o2, l2, q2⟩, hd⟩ : ∃ x, (vd.sync ⟨c1, D1, o1, l1, q1⟩ nm).1 = x := ⟨_, rfl⟩
        have HEQ2 : Hid (vd.sync ⟨c1, D1, o1, l1, q1⟩ nm = (⟨c2, D2, o2, l2, q2⟩, e2)) := Lib.hid (Prod.ext hd he2)
        rw [hd] at hR hok hfw
        rw [he2]
        obtain ⟨A2, n2, cc2, rfl⟩ := hR.form
        have hdb := HD1.out.later b2
        obtain ⟨p0, p1, p2, p3, p4, z0, z1, z2, z3, z4⟩ := hdb.one.five; obtain ⟨y0, y1, y2, y3, y4, s0, s1, s2, s3, s4⟩ := hdb.res.five
        have hR2 := hR.put hdb.one c2 (.slice A2 n2 cc2) o2 l2 q2
        have hdb2 := hdb.store c2 (.slice A2 n2 cc2) o2 l2 q2
        have hlb2 := (HLB.out.later b2).put m4 c2 (.slice A2 n2 cc2) o2 l2 q2
        have hlr2 := (HLR.out.later b2).put m6 c2 (.slice A2 n2 cc2) o2 l2 q2
        obtain ⟨u0, u1, u2, _⟩ := (HLB.out.later b2).one.three
        clear g0 g1 g2 t0 t1 t2 h0 h1 h2 x0 x1 x2
        obtain ⟨X2, hX⟩ : ∃ X, put5 w2 b c2 (.slice A2 n2 cc2) o2 l2 q2 = X := ⟨_, rfl⟩
        rw [hX] at hR2 hdb2 hlb2 hlr2
        have HLB := Lib.hid hlb2
        have HLR := Lib.hid hlr2
        have HX := Lib.hid hX
        have HR2 : Hid (Rd X2 (.agg #[.int .i64 (c2 : Int), .slice A2 n2 cc2, .bool o2, .int .i64 (l2 : Int), .int .i64 q2]) ⟨c2, D2, o2, l2, q2⟩) := Lib.hid hR2
        have HD2 := Lib.hid hdb2
        have HO2 := Lib.hid hok
        have HF2 := Lib.hid hfw
        clear b2 he2 hd hR hdb hR2 hdb2 hok hfw hX hlb2 hlr2
        go_upto_region 9 with fail
        have hX := HX.out
        unfold put5 at hX
        rw [hX]
        clear hX p0 p1 p2 p3 p4 z0 z1 z2 z3 z4 y0 y1 y2 y3 y4 s0 s1 s2 s3 s4 u0 u1 u2
        obtain ⟨g0, g1, g2, t0, t1, t2⟩ := HLB.out.one.three; obtain ⟨h0, h1, h2, x0, x1, x2⟩ := HLR.out.one.three
        obtain ⟨p0, p1, p2, p3, p4, z0, z1, z2, z3, z4⟩ := HD2.out.one.five
        obtain ⟨y0, y1, y2, y3, y4, s0, s1, s2, s3, s4⟩ := HD2.out.res.five
        have HRN : Hid (wl.run (wl.appendOps nm s) ⟨c0, D0, o0, l0, q0⟩ = (⟨c2, D2, o2, l2, q2⟩, e2)) := Lib.hid ((wl.run_go (f := fun d => vd.append d nm s) HEQ1.out).trans (wl.run_one (f := fun d => vd.sync d nm) HEQ2.out))
        rw [HRN.out] at HG
        go_wp2_with fail
        have MK : Hid (∀ w', Below X2.heap.size X2 w' → w'.cell? ⟨b, 0, none⟩ = some (.int .i64 (c2 : Int)) ∧ w'.cell? ⟨b, 1, none⟩ = some (.slice A2 n2 cc2) ∧ w'.cell? ⟨b, 2, none⟩ = some (.bool o2) ∧ w'.cell? ⟨b, 3, none⟩ = some (.int .i64 (l2 : Int)) ∧ w'.cell? ⟨b, 4, none⟩ = some (.int .i64 q2) ∧ w'.cell? ⟨lb, 0, none⟩ = some (.string (crcm.mk nm)) ∧ w'.cell? ⟨lb, 1, none⟩ = some (.int .i64 (mn : Int)) ∧ w'.cell? ⟨lb, 2, none⟩ = some (.bool false)) := Lib.hid fun w' hb => by
          obtain ⟨a0, a1, a2, a3, a4, _⟩ := (HD2.out.later hb).one.five
          obtain ⟨a5, a6, a7, _⟩ := (HLB.out.later hb).one.three
          exact ⟨a0, a1, a2, a3, a4, a5, a6, a7⟩
        have MKr : Hid (∀ (w' : World) (j : Nat) (u : Value), (w'.cell? ⟨b, 0, none⟩ = some (.int .i64 (c2 : Int)) ∧ w'.cell? ⟨b, 1, none⟩ = some (.slice A2 n2 cc2) ∧ w'.cell? ⟨b, 2, none⟩ = some (.bool o2) ∧ w'.cell? ⟨b, 3, none⟩ = some (.int .i64 (l2 : Int)) ∧ w'.cell? ⟨b, 4, none⟩ = some (.int .i64 q2) ∧ w'.cell? ⟨lb, 0, none⟩ = some (.string (crcm.mk nm)) ∧ w'.cell? ⟨lb, 1, none⟩ = some (.int .i64 (mn : Int)) ∧ w'.cell? ⟨lb, 2, none⟩ = some (.bool false)) → (w'.setCell ⟨r, j, none⟩ u).cell? ⟨b, 0, none⟩ = some (.int .i64 (c2 : Int)) ∧ (w'.setCell ⟨r, j, none⟩ u).cell? ⟨b, 1, none⟩ = some (.slice A2 n2 cc2) ∧ (w'.setCell ⟨r, j, none⟩ u).cell? ⟨b, 2, none⟩ = some (.bool o2) ∧ (w'.setCell ⟨r, j, none⟩ u).cell? ⟨b, 3, none⟩ = some (.int .i64 (l2 : Int)) ∧ (w'.setCell ⟨r, j, none⟩ u).cell? ⟨b, 4, none⟩ = some (.int .i64 q2) ∧ (w'.setCell ⟨r, j, none⟩ u).cell? ⟨lb, 0, none⟩ = some (.string (crcm.mk nm)) ∧ (w'.setCell ⟨r, j, none⟩ u).cell? ⟨lb, 1, none⟩ = some (.int .i64 (mn : Int)) ∧ (w'.setCell ⟨r, j, none⟩ u).cell? ⟨lb, 2, none⟩ = some (.bool false)) := Lib.hid fun w' j u hS => by
          have hne : ∀ x k, ¬ x = r → (w'.setCell ⟨r, j, none⟩ u).cell? ⟨x, k, none⟩ = w'.cell? ⟨x, k, none⟩ := fun x k hx => World.cell?_setCell_far w' _ _ u (fun h => hx h.symm)
          rw [hne b, hne b, hne b, hne b, hne b, hne lb, hne lb, hne lb] <;> first | exact hS | exact m1 | exact m8
        have MKl : Hid (∀ (w' : World) (j : Nat) (u : Value), (w'.cell? ⟨b, 0, none⟩ = some (.int .i64 (c2 : Int)) ∧ w'.cell? ⟨b, 1, none⟩ = some (.slice A2 n2 cc2) ∧ w'.cell? ⟨b, 2, none⟩ = some (.bool o2) ∧ w'.cell? ⟨b, 3, none⟩ = some (.int .i64 (l2 : Int)) ∧ w'.cell? ⟨b, 4, none⟩ = some (.int .i64 q2) ∧ w'.cell? ⟨lb, 0, none⟩ = some (.string (crcm.mk nm)) ∧ w'.cell? ⟨lb, 1, none⟩ = some (.int .i64 (mn : Int)) ∧ w'.cell? ⟨lb, 2, none⟩ = some (.bool false)) → (w'.setCell ⟨lr, j, none⟩ u).cell? ⟨b, 0, none⟩ = some (.int .i64 (c2 : Int)) ∧ (w'.setCell ⟨lr, j, none⟩ u).cell? ⟨b, 1, none⟩ = some (.slice A2 n2 cc2) ∧ (w'.setCell ⟨lr, j, none⟩ u).cell? ⟨b, 2, none⟩ = some (.bool o2) ∧ (w'.setCell ⟨lr, j, none⟩ u).cell? ⟨b, 3, none⟩ = some (.int .i64 (l2 : Int)) ∧ (w'.setCell ⟨lr, j, none⟩ u).cell? ⟨b, 4, none⟩ = some (.int .i64 q2) ∧ (w'.setCell ⟨lr, j, none⟩ u).cell? ⟨lb, 0, none⟩ = some (.string (crcm.mk nm)) ∧ (w'.setCell ⟨lr, j, none⟩ u).cell? ⟨lb, 1, none⟩ = some (.int .i64 (mn : Int)) ∧ (w'.setCell ⟨lr, j, none⟩ u).cell? ⟨lb, 2, none⟩ = some (.bool false)) := Lib.hid fun w' j u hS => by
          have hne : ∀ x k, ¬ x = lr → (w'.setCell ⟨lr, j, none⟩ u).cell? ⟨x, k, none⟩ = w'.cell? ⟨x, k, none⟩ := fun x k hx => World.cell?_setCell_far w' _ _ u (fun h => hx h.symm)
          rw [hne b, hne b, hne b, hne b, hne b, hne lb, hne lb, hne lb] <;> first | exact hS | exact m5 | exact m11
        have MKd : Hid (∀ (w' : World), (w'.cell? ⟨b, 0, none⟩ = some (.int .i64 (c2 : Int)) ∧ w'.cell? ⟨b, 1, none⟩ = some (.slice A2 n2 cc2) ∧ w'.cell? ⟨b, 2, none⟩ = some (.bool o2) ∧ w'.cell? ⟨b, 3, none⟩ = some (.int .i64 (l2 : Int)) ∧ w'.cell? ⟨b, 4, none⟩ = some (.int .i64 q2) ∧ w'.cell? ⟨lb, 0, none⟩ = some (.string (crcm.mk nm)) ∧ w'.cell? ⟨lb, 1, none⟩ = some (.int .i64 (mn : Int)) ∧ w'.cell? ⟨lb, 2, none⟩ = some (.bool false)) → w'.drew.cell? ⟨b, 0, none⟩ = some (.int .i64 (c2 : Int)) ∧ w'.drew.cell? ⟨b, 1, none⟩ = some (.slice A2 n2 cc2) ∧ w'.drew.cell? ⟨b, 2, none⟩ = some (.bool o2) ∧ w'.drew.cell? ⟨b, 3, none⟩ = some (.int .i64 (l2 : Int)) ∧ w'.drew.cell? ⟨b, 4, none⟩ = some (.int .i64 q2) ∧ w'.drew.cell? ⟨lb, 0, none⟩ = some (.string (crcm.mk nm)) ∧ w'.drew.cell? ⟨lb, 1, none⟩ = some (.int .i64 (mn : Int)) ∧ w'.drew.cell? ⟨lb, 2, none⟩ = some (.bool false)) := Lib.hid fun w' hS => hS
        have MK0 := Lib.hid (MK.out X2 (Below.refl _ X2))
        have hW : Below X2.heap.size X2 X2.drew := below_drewN (Below.refl _ X2) 1
        have htold : ∀ w', Calls Tryd.prog 51 #[.agg #[.string (crcm.mk nm), .int .i64 (mn : Int), .bool false], .int .i64 (e2 : Int), .int .i64 ((tot : Nat) : Int)] w' (fun e w2 => e = .returned (.agg #[.string (crcm.mk (wl.told ⟨nm, mn, false⟩ e2 (tot)).name), .int .i64 ((wl.told ⟨nm, mn, false⟩ e2 (tot)).many : Int), .bool (wl.told ⟨nm, mn, false⟩ e2 (tot)).off]) ∧ Below w'.heap.size w' w2) := fun w' => rd_told ⟨nm, mn, false⟩ e2 (tot) w'
        obtain ⟨⟨nm2, mn2, of2⟩, htl2⟩ : ∃ x, wl.told ⟨nm, mn, false⟩ e2 (tot) = x := ⟨_, rfl⟩
        rw [htl2] at htold
        have HTL2 := Lib.hid htl2
        have HTO := Lib.hid htold
        clear htold htl2 y0 y1 y2 y3 y4 s0 s1 s2 s3 s4 g0 g1 g2 t0 t1 t2 h0 h1 h2 x0 x1 x2 hWa hWb hWc hX0 hb hlb hr hlr htl
        go_region_held3 (fun w' => w'.cell? ⟨b, 0, none⟩ = some (.int .i64 (c2 : Int)) ∧ w'.cell? ⟨b, 1, none⟩ = some (.slice A2 n2 cc2) ∧ w'.cell? ⟨b, 2, none⟩ = some (.bool o2) ∧ w'.cell? ⟨b, 3, none⟩ = some (.int .i64 (l2 : Int)) ∧ w'.cell? ⟨b, 4, none⟩ = some (.int .i64 q2) ∧ w'.cell? ⟨lb, 0, none⟩ = some (.string (crcm.mk nm)) ∧ w'.cell? ⟨lb, 1, none⟩ = some (.int .i64 (mn : Int)) ∧ w'.cell? ⟨lb, 2, none⟩ = some (.bool false))
          (repeat (first | with_reducible exact MK0.out | with_reducible exact MK.out _ hW | with_reducible refine MKr.out _ _ _ ?_ | with_reducible refine MKl.out _ _ _ ?_ | with_reducible refine MKd.out _ ?_))
          (first | (go_at_call 51; refine (HTO.out _).mono ?_; rintro e w10 ⟨rfl, hb⟩; have hW := hW.trans (hb.mono hW.size); obtain ⟨y0, y1, y2, y3, y4, s0, s1, s2, s3, s4⟩ := (HD2.out.later hW).res.five; obtain ⟨h0, h1, h2, x0, x1, x2⟩ := (HLR.out.later hW).one.three))
        all_goals
          have HRET := Lib.hid ((HD2.out.later hW).ret2 (HLR.out.later hW) m10 c2 (.slice A2 n2 cc2) o2 l2 q2 nm2 mn2 of2)
          have HRR := Lib.hid ((HR2.out.later hW).ret2 (HD2.out.later hW) (HLR.out.later hW) m10 c2 (.slice A2 n2 cc2) o2 l2 q2 nm2 mn2 of2)
          go_wp2_with fail
          refine bodyPost_ret (results_c2t rfl _ _ r lr _ _ _ _ (0, 0) (0, 0) _ _ rfl HRET.out.1 Tryd.underlying45 rfl rd_dsize rfl HRET.out.2.1 Tryd.underlying47 rfl rl_size) rfl ?_
          rw [HG.out]
          exact ⟨_, by rw [HTL2.out]; rfl, HRR.out, HRET.out.2.2⟩
      · have i1 : ¬ (e1 : Int) = 0 := by omega
        have HRN : Hid (wl.run (wl.appendOps nm s) ⟨c0, D0, o0, l0, q0⟩ = (⟨c1, D1, o1, l1, q1⟩, e1)) := Lib.hid (wl.run_halt (f := fun d => vd.append d nm s) HEQ1.out h1)
        rw [HRN.out] at HG
        go_wp2_with fail
        have MK : Hid (∀ w', Below X1.heap.size X1 w' → w'.cell? ⟨b, 0, none⟩ = some (.int .i64 (c1 : Int)) ∧ w'.cell? ⟨b, 1, none⟩ = some (.slice A1 n1 cc1) ∧ w'.cell? ⟨b, 2, none⟩ = some (.bool o1) ∧ w'.cell? ⟨b, 3, none⟩ = some (.int .i64 (l1 : Int)) ∧ w'.cell? ⟨b, 4, none⟩ = some (.int .i64 q1) ∧ w'.cell? ⟨lb, 0, none⟩ = some (.string (crcm.mk nm)) ∧ w'.cell? ⟨lb, 1, none⟩ = some (.int .i64 (mn : Int)) ∧ w'.cell? ⟨lb, 2, none⟩ = some (.bool false)) := Lib.hid fun w' hb => by
          obtain ⟨a0, a1, a2, a3, a4, _⟩ := (HD1.out.later hb).one.five
          obtain ⟨a5, a6, a7, _⟩ := (HLB.out.later hb).one.three
          exact ⟨a0, a1, a2, a3, a4, a5, a6, a7⟩
        have MKr : Hid (∀ (w' : World) (j : Nat) (u : Value), (w'.cell? ⟨b, 0, none⟩ = some (.int .i64 (c1 : Int)) ∧ w'.cell? ⟨b, 1, none⟩ = some (.slice A1 n1 cc1) ∧ w'.cell? ⟨b, 2, none⟩ = some (.bool o1) ∧ w'.cell? ⟨b, 3, none⟩ = some (.int .i64 (l1 : Int)) ∧ w'.cell? ⟨b, 4, none⟩ = some (.int .i64 q1) ∧ w'.cell? ⟨lb, 0, none⟩ = some (.string (crcm.mk nm)) ∧ w'.cell? ⟨lb, 1, none⟩ = some (.int .i64 (mn : Int)) ∧ w'.cell? ⟨lb, 2, none⟩ = some (.bool false)) → (w'.setCell ⟨r, j, none⟩ u).cell? ⟨b, 0, none⟩ = some (.int .i64 (c1 : Int)) ∧ (w'.setCell ⟨r, j, none⟩ u).cell? ⟨b, 1, none⟩ = some (.slice A1 n1 cc1) ∧ (w'.setCell ⟨r, j, none⟩ u).cell? ⟨b, 2, none⟩ = some (.bool o1) ∧ (w'.setCell ⟨r, j, none⟩ u).cell? ⟨b, 3, none⟩ = some (.int .i64 (l1 : Int)) ∧ (w'.setCell ⟨r, j, none⟩ u).cell? ⟨b, 4, none⟩ = some (.int .i64 q1) ∧ (w'.setCell ⟨r, j, none⟩ u).cell? ⟨lb, 0, none⟩ = some (.string (crcm.mk nm)) ∧ (w'.setCell ⟨r, j, none⟩ u).cell? ⟨lb, 1, none⟩ = some (.int .i64 (mn : Int)) ∧ (w'.setCell ⟨r, j, none⟩ u).cell? ⟨lb, 2, none⟩ = some (.bool false)) := Lib.hid fun w' j u hS => by
          have hne : ∀ x k, ¬ x = r → (w'.setCell ⟨r, j, none⟩ u).cell? ⟨x, k, none⟩ = w'.cell? ⟨x, k, none⟩ := fun x k hx => World.cell?_setCell_far w' _ _ u (fun h => hx h.symm)
          rw [hne b, hne b, hne b, hne b, hne b, hne lb, hne lb, hne lb] <;> first | exact hS | exact m1 | exact m8
        have MKl : Hid (∀ (w' : World) (j : Nat) (u : Value), (w'.cell? ⟨b, 0, none⟩ = some (.int .i64 (c1 : Int)) ∧ w'.cell? ⟨b, 1, none⟩ = some (.slice A1 n1 cc1) ∧ w'.cell? ⟨b, 2, none⟩ = some (.bool o1) ∧ w'.cell? ⟨b, 3, none⟩ = some (.int .i64 (l1 : Int)) ∧ w'.cell? ⟨b, 4, none⟩ = some (.int .i64 q1) ∧ w'.cell? ⟨lb, 0, none⟩ = some (.string (crcm.mk nm)) ∧ w'.cell? ⟨lb, 1, none⟩ = some (.int .i64 (mn : Int)) ∧ w'.cell? ⟨lb, 2, none⟩ = some (.bool false)) → (w'.setCell ⟨lr, j, none⟩ u).cell? ⟨b, 0, none⟩ = some (.int .i64 (c1 : Int)) ∧ (w'.setCell ⟨lr, j, none⟩ u).cell? ⟨b, 1, none⟩ = some (.slice A1 n1 cc1) ∧ (w'.setCell ⟨lr, j, none⟩ u).cell? ⟨b, 2, none⟩ = some (.bool o1) ∧ (w'.setCell ⟨lr, j, none⟩ u).cell? ⟨b, 3, none⟩ = some (.int .i64 (l1 : Int)) ∧ (w'.setCell ⟨lr, j, none⟩ u).cell? ⟨b, 4, none⟩ = some (.int .i64 q1) ∧ (w'.setCell ⟨lr, j, none⟩ u).cell? ⟨lb, 0, none⟩ = some (.string (crcm.mk nm)) ∧ (w'.setCell ⟨lr, j, none⟩ u).cell? ⟨lb, 1, none⟩ = some (.int .i64 (mn : Int)) ∧ (w'.setCell ⟨lr, j, none⟩ u).cell? ⟨lb, 2, none⟩ = some (.bool false)) := Lib.hid fun w' j u hS => by
          have hne : ∀ x k, ¬ x = lr → (w'.setCell ⟨lr, j, none⟩ u).cell? ⟨x, k, none⟩ = w'.cell? ⟨x, k, none⟩ := fun x k hx => World.cell?_setCell_far w' _ _ u (fun h => hx h.symm)
          rw [hne b, hne b, hne b, hne b, hne b, hne lb, hne lb, hne lb] <;> first | exact hS | exact m5 | exact m11
        have MKd : Hid (∀ (w' : World), (w'.cell? ⟨b, 0, none⟩ = some (.int .i64 (c1 : Int)) ∧ w'.cell? ⟨b, 1, none⟩ = some (.slice A1 n1 cc1) ∧ w'.cell? ⟨b, 2, none⟩ = some (.bool o1) ∧ w'.cell? ⟨b, 3, none⟩ = some (.int .i64 (l1 : Int)) ∧ w'.cell? ⟨b, 4, none⟩ = some (.int .i64 q1) ∧ w'.cell? ⟨lb, 0, none⟩ = some (.string (crcm.mk nm)) ∧ w'.cell? ⟨lb, 1, none⟩ = some (.int .i64 (mn : Int)) ∧ w'.cell? ⟨lb, 2, none⟩ = some (.bool false)) → w'.drew.cell? ⟨b, 0, none⟩ = some (.int .i64 (c1 : Int)) ∧ w'.drew.cell? ⟨b, 1, none⟩ = some (.slice A1 n1 cc1) ∧ w'.drew.cell? ⟨b, 2, none⟩ = some (.bool o1) ∧ w'.drew.cell? ⟨b, 3, none⟩ = some (.int .i64 (l1 : Int)) ∧ w'.drew.cell? ⟨b, 4, none⟩ = some (.int .i64 q1) ∧ w'.drew.cell? ⟨lb, 0, none⟩ = some (.string (crcm.mk nm)) ∧ w'.drew.cell? ⟨lb, 1, none⟩ = some (.int .i64 (mn : Int)) ∧ w'.drew.cell? ⟨lb, 2, none⟩ = some (.bool false)) := Lib.hid fun w' hS => hS
        have MK0 := Lib.hid (MK.out X1 (Below.refl _ X1))
        have hW : Below X1.heap.size X1 X1.drew := below_drewN (Below.refl _ X1) 1
        have htold : ∀ w', Calls Tryd.prog 51 #[.agg #[.string (crcm.mk nm), .int .i64 (mn : Int), .bool false], .int .i64 (e1 : Int), .int .i64 ((tot : Nat) : Int)] w' (fun e w2 => e = .returned (.agg #[.string (crcm.mk (wl.told ⟨nm, mn, false⟩ e1 (tot)).name), .int .i64 ((wl.told ⟨nm, mn, false⟩ e1 (tot)).many : Int), .bool (wl.told ⟨nm, mn, false⟩ e1 (tot)).off]) ∧ Below w'.heap.size w' w2) := fun w' => rd_told ⟨nm, mn, false⟩ e1 (tot) w'
        obtain ⟨⟨nm2, mn2, of2⟩, htl2⟩ : ∃ x, wl.told ⟨nm, mn, false⟩ e1 (tot) = x := ⟨_, rfl⟩
        rw [htl2] at htold
        have HTL2 := Lib.hid htl2
        have HTO := Lib.hid htold
        clear htold htl2 y0 y1 y2 y3 y4 s0 s1 s2 s3 s4 g0 g1 g2 t0 t1 t2 h0 h1 h2 x0 x1 x2 hWa hWb hWc hX0 hb hlb hr hlr htl
        go_region_held3 (fun w' => w'.cell? ⟨b, 0, none⟩ = some (.int .i64 (c1 : Int)) ∧ w'.cell? ⟨b, 1, none⟩ = some (.slice A1 n1 cc1) ∧ w'.cell? ⟨b, 2, none⟩ = some (.bool o1) ∧ w'.cell? ⟨b, 3, none⟩ = some (.int .i64 (l1 : Int)) ∧ w'.cell? ⟨b, 4, none⟩ = some (.int .i64 q1) ∧ w'.cell? ⟨lb, 0, none⟩ = some (.string (crcm.mk nm)) ∧ w'.cell? ⟨lb, 1, none⟩ = some (.int .i64 (mn : Int)) ∧ w'.cell? ⟨lb, 2, none⟩ = some (.bool false))
          (repeat (first | with_reducible exact MK0.out | with_reducible exact MK.out _ hW | with_reducible refine MKr.out _ _ _ ?_ | with_reducible refine MKl.out _ _ _ ?_ | with_reducible refine MKd.out _ ?_))
          (first | (go_at_call 51; refine (HTO.out _).mono ?_; rintro e w10 ⟨rfl, hb⟩; have hW := hW.trans (hb.mono hW.size); obtain ⟨y0, y1, y2, y3, y4, s0, s1, s2, s3, s4⟩ := (HD1.out.later hW).res.five; obtain ⟨h0, h1, h2, x0, x1, x2⟩ := (HLR.out.later hW).one.three))
        all_goals
          have HRET := Lib.hid ((HD1.out.later hW).ret2 (HLR.out.later hW) m10 c1 (.slice A1 n1 cc1) o1 l1 q1 nm2 mn2 of2)
          have HRR := Lib.hid ((HR1.out.later hW).ret2 (HD1.out.later hW) (HLR.out.later hW) m10 c1 (.slice A1 n1 cc1) o1 l1 q1 nm2 mn2 of2)
          go_wp2_with fail
          refine bodyPost_ret (results_c2t rfl _ _ r lr _ _ _ _ (0, 0) (0, 0) _ _ rfl HRET.out.1 Tryd.underlying45 rfl rd_dsize rfl HRET.out.2.1 Tryd.underlying47 rfl rl_size) rfl ?_
          rw [HG.out]
          exact ⟨_, by rw [HTL2.out]; rfl, HRR.out, HRET.out.2.2⟩
    · have HE71 : Hid (e0 = 71) := Lib.hid (by have h := HBS.out; unfold wl.bytes at h; split at h <;> cases h; exact absurd rfl h00; rfl)
      have HE : Hid (wl.append ⟨c0, D0, o0, l0, q0⟩ ⟨nm, mn, false⟩ ls = (⟨c0, D0, o0, l0, q0⟩, ⟨nm, mn, false⟩, 71)) := Lib.hid (by unfold wl.append wl.change; rw [HBS.out, HE71.out]; rfl)
      simp only [decide_eq_false h00]
      have HRET := Lib.hid (HD0.out.ret2d HLR.out m10 c0 (.slice A0 n0 cc0) o0 l0 q0 nm mn false)
      have HRR := Lib.hid (HR0.out.ret2 HD0.out HLR.out m10 c0 (.slice A0 n0 cc0) o0 l0 q0 nm mn false)
      go_wp2_with fail
      clear z0 z1 z2 z3 z4 t0 t1 t2 hWa hWb hWc hX0 hb hlb hr hlr htl hmn2
      go_region
      all_goals
        go_wp2_with fail
        refine bodyPost_ret (results_c2t rfl _ _ r lr _ _ _ _ (0, 0) (0, 0) _ _ rfl HRET.out.1 Tryd.underlying45 rfl rd_dsize rfl HRET.out.2.1 Tryd.underlying47 rfl rl_size) rfl ?_
        rw [HE.out]
        exact ⟨_, rfl, HRR.out.drew, HRET.out.2.2⟩
end
section
open Go Go.RowKit
set_option maxRecDepth 100000

set_option maxHeartbeats 1000000 in
theorem rall_own (s : ByteArray) (w : World) (hs : s.size ≤ 1000000) :
    Calls Tryd.prog 46 #[.string s] w fun e w' => ∃ v, e = .returned (.tuple #[v, .int .i64 ((crcm.allOf s.data.toList).2 : Nat)]) ∧ w'.ownsRow w.heap.size 9 1 v (crcm.allOf s.data.toList).1.length ((crcm.allOf s.data.toList).1.map strV) ∧ Below w.heap.size w w' := by
  obtain ⟨i0, hi, hz0, hz1, hz2⟩ := info_parts info_string
  have hl := crcm.size_len s
  have Hl := Lib.hid hl
  clear hl
  go_enter Tryd.func46, Tryd.ntmps46
  go_wp2
  go_loopw [4, 5] (fun v i wr => ∃ (k : Nat) (ls : List (List UInt8)), k ≤ s.size ∧ i = .int .i64 k ∧ ls.length ≤ k ∧ wr.ownsRow w.heap.size 9 1 v ls.length (ls.map strV) ∧
      crcm.allOf s.data.toList = (ls ++ (crcm.allOf (s.data.toList.drop k)).1, k + (crcm.allOf (s.data.toList.drop k)).2) ∧ Below w.heap.size w wr) (fun _ i _ => s.size - (intOf i).toNat)
  case atStart =>
    exact ⟨0, [], Nat.zero_le _, rfl, Nat.le_refl _, World.ownsRow_lit w #[] 0 (Nat.le_refl _) (Nat.zero_le _) rfl, by simp, (Below.refl _ _).alloc (Nat.le_refl _) _⟩
  case round =>
    obtain ⟨k, ls, hk, rfl, hlk, hown, hall, hbel⟩ := hrel
    have HA := Lib.hid hall
    clear hall
    have hsz : (s.extract k s.size).size ≤ maxLen := extract_le _ _ _ (by omega)
    have hdl : (s.data.toList.drop k).length = s.size - k := by rw [List.length_drop, Hl.out]
    have hex : (s.extract k s.size).data.toList = s.data.toList.drop k := by
      rw [Lib.extract_data, List.take_of_length_le (by omega)]
    obtain ⟨t, n, er, hg⟩ : ∃ t n er, crcm.get (s.data.toList.drop k) = (t, n, er) := ⟨_, _, _, rfl⟩
    by_cases he : er = 0
    · subst he
      have h0 : (crcm.get (s.data.toList.drop k)).2.2 = 0 := by rw [hg]
      have hok := crcm.get_ok h0
      have hst := crcm.allOf_step h0
      rw [hg] at hok hst
      simp only [hdl] at hok
      obtain ⟨o1, o2, _⟩ := hok
      have hg2 : crcm.get (s.extract k s.size).data.toList = (t, n, 0) := by rw [hex]; exact hg
      have Hg := Lib.hid hg2
      have hstep : crcm.allOf s.data.toList = ((ls ++ [t]) ++ (crcm.allOf (s.data.toList.drop (k + n))).1, (k + n) + (crcm.allOf (s.data.toList.drop (k + n))).2) := by
        rw [HA.out, hst]
        simp only [List.drop_drop, List.append_assoc, List.cons_append, List.nil_append, Nat.add_assoc]
      have HS := Lib.hid hstep
      clear hstep hst hg2 hg hex hdl h0
      go_wp2_with (first | (go_at_call 75; refine (rget_any _ _ hsz).mono ?_; unfold GetPost; rw [Hg.out]; rintro e w1 ⟨rfl, hb1⟩; have hown1 := owns_below hown hb1) | (at_builtin; refine wpList_append_own _ rfl _ _ 26 rfl w.heap.size 9 i0 (.string .empty) 1 16 Tryd.underlying26 hi hz0 hz1 hz2 rfl (by decide) _ _ _ rfl (hown1.alloc _) ⟨w1.heap.size, 0, none⟩ 1 1 [strV t] rfl rfl ?c1 ?c2 ?c3 ?c4 ?c5 ?_))
      case c1 => exact cell_new1 _ _ _
      case c2 => exact strV_one _
      case c3 => unfold maxLen; omega
      case c4 => omega
      case c5 => have := hbel.size; have := hb1.size; simp; omega
      intro v' w2 hown' hgrow _
      go_wp2
      have hlen : ls.length + 1 = (ls ++ [t]).length := by simp
      have hmap : ls.map strV ++ [strV t] = (ls ++ [t]).map strV := by simp
      have hrow : ∀ j, u4.ownBlock = some j → w.heap.size ≤ j := fun j hj => (hown1.lt j hj).1
      have hb2 : Below w.heap.size w w2 := ((hbel.trans (hb1.mono hbel.size)).alloc (by have := hbel.size; have := hb1.size; omega) _).grown hgrow (by have := hbel.size; have := hb1.size; simp; omega) hrow
      go_roundw
      case rel => exact ⟨k + n, ls ++ [t], by omega, by go_num, by simp; omega, by rw [← hlen, ← hmap]; exact hown', HS.out, hb2⟩
      case measure => simp [intOf]; omega
    · have h0 : (crcm.get (s.data.toList.drop k)).2.2 ≠ 0 := by rw [hg]; exact he
      have hst := crcm.allOf_stop h0
      have hg2 : crcm.get (s.extract k s.size).data.toList = (t, n, er) := by rw [hex]; exact hg
      have Hg := Lib.hid hg2
      have hstep : crcm.allOf s.data.toList = (ls, k) := by
        rw [HA.out, hst]
        simp
      have HS := Lib.hid hstep
      have hb : ((er : Int) != 0) = true := by rw [bne_iff_ne]; omega
      clear hstep hst hg2 hg hex hdl h0
      go_wp2_with (go_at_call 75; refine (rget_any _ _ hsz).mono ?_; unfold GetPost; rw [Hg.out]; rintro e w1 ⟨rfl, hb1⟩; have hown1 := owns_below hown hb1)
      go_ret2
      rw [HS.out]
      exact ⟨_, rfl, hown1, hbel.trans (hb1.mono hbel.size)⟩
end
section
open Go Go.RowKit
set_option maxRecDepth 100000

/-- what Open answers -/
def OpTo (w : World) (nm : vd.Name) (x : vd.Disk × List (List UInt8) × Nat) (e : Ending) (w' : World) : Prop := ∃ v u, e = .returned (.tuple #[v, lgA (if x.2.2 = 0 then ⟨nm, x.2.1.length, false⟩ else ⟨[], 0, false⟩), u, .int .i64 (x.2.2 : Int)]) ∧ Rd w' v x.1 ∧ (∃ B, w.heap.size ≤ B ∧ w'.ownsRow B 9 1 u x.2.1.length (x.2.1.map strV)) ∧ Below w.heap.size w w'
theorem none_row (w : World) (B : Nat) : w.ownsRow B 9 1 (.slice none 0 0) 0 [] := ⟨by simp, .inl ⟨rfl, rfl⟩⟩
set_option maxHeartbeats 16000000 in
theorem rd_open {w : World} {v : Value} {d : vd.Disk} (nm : List UInt8) (h : Rd w v d) (ho : vd.Ok d) (hf : vd.Few d) (hc : d.cap ≤ 1000000) (hn : nm.length ≤ 200) :
    Calls Tryd.prog 20 #[v, .string (crcm.mk nm)] w (OpTo w nm (wl.open_ d nm)) := by
  obtain ⟨A0, n0, cc0, rfl⟩ := h.form
  obtain ⟨c0, D0, o0, l0, q0⟩ := d
  obtain ⟨Wa, hWa⟩ : ∃ W, w.alloc (.cells #[.int .i64 (c0 : Int), .slice A0 n0 cc0, .bool o0, .int .i64 (l0 : Int), .int .i64 q0] 45) = W := ⟨_, rfl⟩
  obtain ⟨Wb, hWb⟩ : ∃ W, Wa.alloc (.cells #[.int .i64 0, .slice none 0 0, .bool false, .int .i64 0, .int .i64 0] 45) = W := ⟨_, rfl⟩
  obtain ⟨X0, hX0⟩ : ∃ W, Wb.alloc (.cells #[.string ⟨#[]⟩, .int .i64 0, .bool false] 47) = W := ⟨_, rfl⟩
  have ba : Below w.heap.size w Wa := by rw [← hWa]; exact (Below.refl _ w).alloc (Nat.le_refl _) _
  have bb : Below Wa.heap.size Wa Wb := by rw [← hWb]; exact (Below.refl _ Wa).alloc (Nat.le_refl _) _
  have bx : Below Wb.heap.size Wb X0 := by rw [← hX0]; exact (Below.refl _ Wb).alloc (Nat.le_refl _) _
  have sa : Wa.heap.size = w.heap.size + 1 := by rw [← hWa]; exact Array.size_push _
  have sb : Wb.heap.size = Wa.heap.size + 1 := by rw [← hWb]; exact Array.size_push _
  have va : Vb Wa w.heap.size (rdC c0 (.slice A0 n0 cc0) o0 l0 q0) 45 := by rw [← hWa]; exact Vb.new w _ _
  have vb : Vb Wb Wa.heap.size [.int .i64 0, .slice none 0 0, .bool false, .int .i64 0, .int .i64 0] 45 := by rw [← hWb]; exact Vb.new Wa _ _
  have vx : Vb X0 Wb.heap.size [.string ⟨#[]⟩, .int .i64 0, .bool false] 47 := by rw [← hX0]; exact Vb.new Wb _ _
  obtain ⟨b, hb⟩ : ∃ x, w.heap.size = x := ⟨_, rfl⟩
  obtain ⟨r, hr⟩ : ∃ x, Wa.heap.size = x := ⟨_, rfl⟩
  obtain ⟨lr, hlr⟩ : ∃ x, Wb.heap.size = x := ⟨_, rfl⟩
  have hbel : Below w.heap.size w X0 := (ba.trans (bb.mono (by omega))).trans (bx.mono (by omega))
  have HLR : Hid (LX w X0 lr [.string ⟨#[]⟩, .int .i64 0, .bool false]) := Lib.hid ⟨by omega, by rw [← hlr]; exact vx⟩
  have HD0 : Hid (DB w X0 b r (rdC c0 (.slice A0 n0 cc0) o0 l0 q0)) := Lib.hid ⟨hbel, by omega, by omega, by rw [← hb]; exact (va.below bb).below bx, by rw [← hr]; exact vb.below bx⟩
  have m1 : ¬ b = r := by omega
  have m2 : ¬ r = b := by omega
  have m5 : ¬ b = lr := by omega
  have m6 : ¬ lr = b := by omega
  have m9 : ¬ r = lr := by omega
  have m10 : ¬ lr = r := by omega
  have HR0 : Hid (Rd X0 (.agg #[.int .i64 (c0 : Int), .slice A0 n0 cc0, .bool o0, .int .i64 (l0 : Int), .int .i64 q0]) ⟨c0, D0, o0, l0, q0⟩) := Lib.hid (h.later HD0.out.below)
  have HO0 : Hid (vd.Ok ⟨c0, D0, o0, l0, q0⟩) := Lib.hid ho
  have HF0 : Hid (vd.Few ⟨c0, D0, o0, l0, q0⟩) := Lib.hid hf
  have HNM : Hid (nm.length ≤ 200) := Lib.hid hn
  have HCP : Hid (c0 ≤ 1000000) := Lib.hid hc
  clear ba bb bx sa sb va vb vx h ho hf hbel hn hc
  obtain ⟨p0, p1, p2, p3, p4, z0, z1, z2, z3, z4⟩ := HD0.out.one.five
  obtain ⟨y0, y1, y2, y3, y4, s0, s1, s2, s3, s4⟩ := HD0.out.res.five
  obtain ⟨h0, h1, h2, x0, x1, x2⟩ := HLR.out.one.three
  obtain ⟨Sx, hS⟩ : ∃ S, (vd.read ⟨c0, D0, o0, l0, q0⟩ nm).1 = S := ⟨_, rfl⟩
  obtain ⟨er, her⟩ : ∃ er, (vd.read ⟨c0, D0, o0, l0, q0⟩ nm).2 = er := ⟨_, rfl⟩
  obtain ⟨ts, hts⟩ : ∃ ts, (crcm.allOf Sx).1 = ts := ⟨_, rfl⟩
  obtain ⟨en, hen⟩ : ∃ en, (crcm.allOf Sx).2 = en := ⟨_, rfl⟩
  obtain ⟨tn, htn⟩ : ∃ tn, ts.length = tn := ⟨_, rfl⟩
  have hrd := use_read HR0.out HO0.out HF0.out nm (by have := HNM.out; unfold maxLen; omega)
  rw [hS, her] at hrd
  have hrl := vd.read_len HO0.out nm
  rw [hS] at hrl
  have hle := crcm.allOf_le Sx
  rw [hts, hen] at hle
  obtain ⟨SL, hSL⟩ : ∃ SL, Sx.length = SL := ⟨_, rfl⟩
  rw [hSL] at hle hrl
  have hsz : (crcm.mk Sx).size = SL := by rw [crcm.mk_size, hSL]
  have HSZ : Hid (SL ≤ 1000000) := Lib.hid (Nat.le_trans hrl HCP.out)
  have HALL : Hid (∀ w', Calls Tryd.prog 46 #[.string (crcm.mk Sx)] w' fun e w2 => ∃ v, e = .returned (.tuple #[v, .int .i64 (en : Nat)]) ∧ w2.ownsRow w'.heap.size 9 1 v ts.length (ts.map strV) ∧ Below w'.heap.size w' w2) := Lib.hid fun w' => by
    have := rall_own (crcm.mk Sx) w' (by rw [hsz]; exact HSZ.out)
    rw [crcm.mk_toList, hts, hen] at this
    exact this
  have HM : Hid (wl.mend ⟨c0, D0, o0, l0, q0⟩ nm = if er = 3 ∨ en < SL then wl.write ⟨c0, D0, o0, l0, q0⟩ nm (Sx.take en) else vd.sync ⟨c0, D0, o0, l0, q0⟩ nm) := Lib.hid (by unfold wl.mend; rw [her, hS, hen, hSL])
  have HR : Hid (wl.open_ ⟨c0, D0, o0, l0, q0⟩ nm = if wl.openE nm = false then (⟨c0, D0, o0, l0, q0⟩, [], 1) else if er ≠ 0 ∧ er ≠ 3 then (⟨c0, D0, o0, l0, q0⟩, [], er) else if (wl.mend ⟨c0, D0, o0, l0, q0⟩ nm).2 ≠ 0 then ((wl.mend ⟨c0, D0, o0, l0, q0⟩ nm).1, [], (wl.mend ⟨c0, D0, o0, l0, q0⟩ nm).2) else ((wl.mend ⟨c0, D0, o0, l0, q0⟩ nm).1, ts, 0)) := Lib.hid (by unfold wl.open_; rw [her, hS, hts])
  obtain ⟨⟨⟨c1, D1, o1, l1, q1⟩, e1⟩, hwr⟩ : ∃ x, wl.write ⟨c0, D0, o0, l0, q0⟩ nm (Sx.take en) = x := ⟨_, rfl⟩
  have HWR := Lib.hid hwr
  have hex : (crcm.mk Sx).extract 0 en = crcm.mk (Sx.take en) := by rw [Lib.extract_eq]; show (⟨((crcm.mk Sx).data.toList.drop 0 |>.take (en - 0)).toArray⟩ : ByteArray) = _; rw [crcm.mk_toList]; rfl
  have hsz2 : (crcm.mk (Sx.take en)).size ≤ SL := by rw [crcm.mk_size, List.length_take]; omega
  have HTK : Hid ((Sx.take en).length ≤ 1000000000) := Lib.hid (by have := HSZ.out; rw [List.length_take]; omega)
  have HTN := Lib.hid htn
  obtain ⟨N, hN⟩ : ∃ N, nm.length = N := ⟨_, rfl⟩
  have hszn : (crcm.mk nm).size = N := by rw [crcm.mk_size, hN]
  have HNN := Lib.hid hN
  clear hS her hts hen htn hwr hSL hN
  go_enter Tryd.func20, Tryd.ntmps20
  by_cases hN0 : N < 1
  · have HG : Hid (wl.openE nm = false) := Lib.hid (by have h := HNN.out; unfold wl.openE; cases nm with | nil => rfl | cons x t => simp at h; omega)
    have HQ : Hid (wl.open_ ⟨c0, D0, o0, l0, q0⟩ nm = (⟨c0, D0, o0, l0, q0⟩, [], 1)) := Lib.hid (by rw [HR.out, HG.out]; rfl)
    have i1 : (N : Int) < 1 := by omega
    have HRET := Lib.hid (HD0.out.ret2 HLR.out m10 c0 (.slice A0 n0 cc0) o0 l0 q0 [] 0 false)
    have HRR := Lib.hid (HR0.out.ret2 HD0.out HLR.out m10 c0 (.slice A0 n0 cc0) o0 l0 q0 [] 0 false)
    go_wp2_with fail
    refine bodyPost_ret (results_c2tt rfl _ _ r lr _ _ _ _ (0, 0) (0, 0) _ _ rfl HRET.out.1 Tryd.underlying45 rfl rd_dsize rfl HRET.out.2.1 Tryd.underlying47 rfl rl_size) rfl ?_
    rw [HQ.out]
    exact ⟨_, _, rfl, HRR.out, ⟨_, Nat.le_refl _, none_row _ _⟩, HRET.out.2.2⟩
  · by_cases hN1 : 59 < N
    · have HG : Hid (wl.openE nm = false) := Lib.hid (by have h := HNN.out; unfold wl.openE; have h5 : ¬ nm.length ≤ 59 := (by omega); simp [h5])
      have HQ : Hid (wl.open_ ⟨c0, D0, o0, l0, q0⟩ nm = (⟨c0, D0, o0, l0, q0⟩, [], 1)) := Lib.hid (by rw [HR.out, HG.out]; rfl)
      have i1 : ¬ (N : Int) < 1 := by omega
      have i2 : (59 : Int) < (N : Int) := by omega
      have HRET := Lib.hid (HD0.out.ret2 HLR.out m10 c0 (.slice A0 n0 cc0) o0 l0 q0 [] 0 false)
      have HRR := Lib.hid (HR0.out.ret2 HD0.out HLR.out m10 c0 (.slice A0 n0 cc0) o0 l0 q0 [] 0 false)
      go_wp2_with fail
      refine bodyPost_ret (results_c2tt rfl _ _ r lr _ _ _ _ (0, 0) (0, 0) _ _ rfl HRET.out.1 Tryd.underlying45 rfl rd_dsize rfl HRET.out.2.1 Tryd.underlying47 rfl rl_size) rfl ?_
      rw [HQ.out]
      exact ⟨_, _, rfl, HRR.out, ⟨_, Nat.le_refl _, none_row _ _⟩, HRET.out.2.2⟩
    · have HG : Hid (wl.openE nm = true) := Lib.hid (by have h := HNN.out; unfold wl.openE; rw [Bool.and_eq_true, decide_eq_true_iff, decide_eq_true_iff]; exact ⟨fun e => by subst e; simp at h; omega, by omega⟩)
      have i1 : ¬ (N : Int) < 1 := by omega
      have i2 : ¬ (59 : Int) < (N : Int) := by omega
      go_wp2_with fail
      refine hrd.mono ?_
      rintro e X0 ⟨rfl, bj⟩
      have HD0 := Lib.hid (HD0.out.later bj)
      have HR0 : Hid (Rd X0 (.agg #[.int .i64 (c0 : Int), .slice A0 n0 cc0, .bool o0, .int .i64 (l0 : Int), .int .i64 q0]) ⟨c0, D0, o0, l0, q0⟩) := Lib.hid (HR0.out.later bj)
      have HLR := Lib.hid (HLR.out.later bj)
      clear p0 p1 p2 p3 p4 z0 z1 z2 z3 z4 y0 y1 y2 y3 y4 s0 s1 s2 s3 s4 h0 h1 h2 x0 x1 x2 hrd bj
      obtain ⟨p0, p1, p2, p3, p4, z0, z1, z2, z3, z4⟩ := HD0.out.one.five
      obtain ⟨y0, y1, y2, y3, y4, s0, s1, s2, s3, s4⟩ := HD0.out.res.five
      obtain ⟨h0, h1, h2, x0, x1, x2⟩ := HLR.out.one.three
      by_cases he : er ≠ 0 ∧ er ≠ 3
      · have kk : ((er : Int) != 0 && (er : Int) != 3) = true := by simp; omega
        have j0 : ¬ (er : Int) = 0 := by omega
        have j3 : ¬ (er : Int) = 3 := by omega
        have HQ : Hid (wl.open_ ⟨c0, D0, o0, l0, q0⟩ nm = (⟨c0, D0, o0, l0, q0⟩, [], er)) := Lib.hid (by rw [HR.out, HG.out, if_neg (by simp), if_pos he])
        have HRET := Lib.hid (HD0.out.ret2 HLR.out m10 c0 (.slice A0 n0 cc0) o0 l0 q0 [] 0 false)
        have HRR := Lib.hid (HR0.out.ret2 HD0.out HLR.out m10 c0 (.slice A0 n0 cc0) o0 l0 q0 [] 0 false)
        go_wp2_with fail
        refine bodyPost_ret (results_c2tt rfl _ _ r lr _ _ _ _ (0, 0) (0, 0) _ _ rfl HRET.out.1 Tryd.underlying45 rfl rd_dsize rfl HRET.out.2.1 Tryd.underlying47 rfl rl_size) rfl ?_
        rw [HQ.out]
        exact ⟨_, _, (by rw [if_neg he.1]; rfl), HRR.out, ⟨_, Nat.le_refl _, none_row _ _⟩, HRET.out.2.2⟩
      · have hex0 : er = 0 ∨ er = 3 := by omega
        have HE := Lib.hid he
        clear he
        have hall := HALL.out X0
        rcases hex0 with rfl | rfl
        all_goals
          go_wp2_with fail
          refine hall.mono ?_
          rintro e w5 ⟨u, rfl, hou, bj⟩
          have HOW := Lib.hid hou
          have HOWN : Hid (∀ x, u.ownBlock = some x → x ∉ [b, r, lr]) := Lib.hid (fun x hx => by
            have h1 := (hou.lt x hx).1
            have h2 := HD0.out.one.lt
            have h3 := HD0.out.res.lt
            have h4 := HLR.out.one.lt
            simp
            omega)
          have HBS0 : Hid (w.heap.size ≤ X0.heap.size) := Lib.hid HD0.out.below.size
          have HD0 := Lib.hid (HD0.out.later bj)
          have HR0 : Hid (Rd w5 (.agg #[.int .i64 (c0 : Int), .slice A0 n0 cc0, .bool o0, .int .i64 (l0 : Int), .int .i64 q0]) ⟨c0, D0, o0, l0, q0⟩) := Lib.hid (HR0.out.later bj)
          have HLR := Lib.hid (HLR.out.later bj)
          obtain ⟨X0, hX0⟩ : ∃ X, w5 = X := ⟨_, rfl⟩
          rw [hX0] at HD0 HR0 HLR HOW ⊢
          clear p0 p1 p2 p3 p4 z0 z1 z2 z3 z4 y0 y1 y2 y3 y4 s0 s1 s2 s3 s4 h0 h1 h2 x0 x1 x2 hall bj hou hX0
          obtain ⟨p0, p1, p2, p3, p4, z0, z1, z2, z3, z4⟩ := HD0.out.one.five
          obtain ⟨y0, y1, y2, y3, y4, s0, s1, s2, s3, s4⟩ := HD0.out.res.five
          obtain ⟨h0, h1, h2, x0, x1, x2⟩ := HLR.out.one.three
        · by_cases hcut : en < SL
          · have i3 : (en : Int) < (SL : Int) := by omega
            have HMD : Hid (wl.mend ⟨c0, D0, o0, l0, q0⟩ nm = (⟨c1, D1, o1, l1, q1⟩, e1)) := Lib.hid (by rw [HM.out, if_pos (by right; exact hcut)]; exact HWR.out)
            go_wp2_with fail
            have HCW : Hid (∀ w', Below X0.heap.size X0 w' → Calls Tryd.prog 47 #[.agg #[.int .i64 (c0 : Int), .slice A0 n0 cc0, .bool o0, .int .i64 (l0 : Int), .int .i64 q0], .string (crcm.mk nm), .string (crcm.mk (Sx.take en))] w' (fun e w2 => ∃ A n cc, e = .returned (.tuple #[.agg #[.int .i64 (c1 : Int), .slice A n cc, .bool o1, .int .i64 (l1 : Int), .int .i64 q1], .int .i64 (e1 : Int)]) ∧ Rd w2 (.agg #[.int .i64 (c1 : Int), .slice A n cc, .bool o1, .int .i64 (l1 : Int), .int .i64 q1]) ⟨c1, D1, o1, l1, q1⟩ ∧ Below w'.heap.size w' w2)) := Lib.hid fun w' hb => by
              refine (rd_write nm (Sx.take en) (HR0.out.later hb) HO0.out HF0.out HNM.out HTK.out).mono ?_
              rintro e w2 ⟨v2, rfl, hR, hb2⟩
              rw [HWR.out] at hR ⊢
              obtain ⟨A, n, cc, rfl⟩ := hR.form
              exact ⟨A, n, cc, rfl, hR, hb2⟩
            have hW : Below X0.heap.size X0 X0.drew := below_drewN (Below.refl _ X0) 1
            clear hsz2
            clear y0 y1 y2 y3 y4 s0 s1 s2 s3 s4 h0 h1 h2 x0 x1 x2
            go_cut [12] (fun s12 wx => ∃ A1 n1 cc1, s12 = .int .i64 (e1 : Int) ∧ DB w wx b r (rdC c1 (.slice A1 n1 cc1) o1 l1 q1) ∧ Rd wx (.agg #[.int .i64 (c1 : Int), .slice A1 n1 cc1, .bool o1, .int .i64 (l1 : Int), .int .i64 q1]) ⟨c1, D1, o1, l1, q1⟩ ∧ LX w wx lr [.string ⟨#[]⟩, .int .i64 0, .bool false] ∧ Apart [b, r, lr] X0 wx)
            case first =>
              go_region_with (first | (go_at_call 47; refine (HCW.out _ hW).mono ?_; rintro e w6 ⟨A6, n6, cc6, rfl, hR6, b6⟩; have hW := hW.trans (b6.mono hW.size); obtain ⟨p0, p1, p2, p3, p4, z0, z1, z2, z3, z4⟩ := (HD0.out.later hW).one.five))
              all_goals
                have HQD := Lib.hid ((HD0.out.later hW).store c1 (.slice A6 n6 cc6) o1 l1 q1)
                have HQR := Lib.hid (hR6.put (HD0.out.later hW).one c1 (.slice A6 n6 cc6) o1 l1 q1)
                have HQL := Lib.hid ((HLR.out.later hW).put m6 c1 (.slice A6 n6 cc6) o1 l1 q1)
                have HQA := Lib.hid ((Apart.of_below hW [b, r, lr]).trans ((put5_apart w6 b c1 (.slice A6 n6 cc6) o1 l1 q1).mono (T := [b, r, lr]) (by simp)))
                go_wp2_with fail
                go_meet
                exact ⟨A6, n6, cc6, rfl, HQD.out, HQR.out, HQL.out, HQA.out⟩
            case rest =>
              obtain ⟨A1, n1, cc1, rfl, hD1, hR1, hL1, hA1⟩ := hcut
              obtain ⟨X1, hX1⟩ : ∃ X, wc = X := ⟨_, rfl⟩
              rw [hX1] at hD1 hR1 hL1 hA1 ⊢
              have HD1 := Lib.hid hD1
              have HR1 : Hid (Rd X1 (.agg #[.int .i64 (c1 : Int), .slice A1 n1 cc1, .bool o1, .int .i64 (l1 : Int), .int .i64 q1]) ⟨c1, D1, o1, l1, q1⟩) := Lib.hid hR1
              have HLR := Lib.hid hL1
              have HAP := Lib.hid hA1
              clear hD1 hR1 hL1 hA1 hX1 hW p0 p1 p2 p3 p4 z0 z1 z2 z3 z4
              obtain ⟨p0, p1, p2, p3, p4, z0, z1, z2, z3, z4⟩ := HD1.out.one.five
              obtain ⟨y0, y1, y2, y3, y4, s0, s1, s2, s3, s4⟩ := HD1.out.res.five
              obtain ⟨h0, h1, h2, x0, x1, x2⟩ := HLR.out.one.three
              have HTX : Hid (Strs X1 u ts) := Lib.hid (strs_of_owns rfl (owns_apart HOW.out HAP.out (fun x hx => HOWN.out x hx)))
              by_cases hz : e1 = 0
              · subst hz
                have HQ : Hid (wl.open_ ⟨c0, D0, o0, l0, q0⟩ nm = (⟨c1, D1, o1, l1, q1⟩, ts, 0)) := Lib.hid (by rw [HR.out, HG.out, if_neg (by simp), if_neg (by omega), HMD.out]; rfl)
                obtain ⟨Au, cu, rfl⟩ : ∃ A c, u = .slice A tn c := by
                  have h := HTX.out
                  obtain ⟨A, c, e, _⟩ := h
                  exact ⟨A, c, by rw [e, HTN.out]⟩
                have HTX2 : Hid (∃ B, w.heap.size ≤ B ∧ (put3 (put5 X1 r c1 (.slice A1 n1 cc1) o1 l1 q1) lr nm tn false).ownsRow B 9 1 (.slice Au tn cu) ts.length (ts.map strV)) := Lib.hid ⟨_, HBS0.out, (owns_apart (owns_apart HOW.out (HAP.out.trans ((put5_apart X1 r c1 (.slice A1 n1 cc1) o1 l1 q1).mono (T := [b, r, lr]) (by simp))) (fun x hx => HOWN.out x hx)) ((put3_apart _ lr nm tn false).mono (T := [b, r, lr]) (by simp)) (fun x hx => HOWN.out x hx))⟩
                have HRET := Lib.hid (HD1.out.ret2 HLR.out m10 c1 (.slice A1 n1 cc1) o1 l1 q1 nm tn false)
                have HRR := Lib.hid (HR1.out.ret2 HD1.out HLR.out m10 c1 (.slice A1 n1 cc1) o1 l1 q1 nm tn false)
                go_wp2_with fail
                refine bodyPost_ret (results_c2tt rfl _ _ r lr _ _ _ _ (0, 0) (0, 0) _ _ rfl HRET.out.1 Tryd.underlying45 rfl rd_dsize rfl HRET.out.2.1 Tryd.underlying47 rfl rl_size) rfl ?_
                rw [HQ.out]
                exact ⟨_, _, (by rw [← HTN.out]; rfl), HRR.out, HTX2.out, HRET.out.2.2⟩
              · have iz : ¬ (e1 : Int) = 0 := by omega
                have HQ : Hid (wl.open_ ⟨c0, D0, o0, l0, q0⟩ nm = (⟨c1, D1, o1, l1, q1⟩, [], e1)) := Lib.hid (by rw [HR.out, HG.out, if_neg (by simp), if_neg (by omega), HMD.out, if_pos hz])
                have HRET := Lib.hid (HD1.out.ret2 HLR.out m10 c1 (.slice A1 n1 cc1) o1 l1 q1 [] 0 false)
                have HRR := Lib.hid (HR1.out.ret2 HD1.out HLR.out m10 c1 (.slice A1 n1 cc1) o1 l1 q1 [] 0 false)
                go_wp2_with fail
                refine bodyPost_ret (results_c2tt rfl _ _ r lr _ _ _ _ (0, 0) (0, 0) _ _ rfl HRET.out.1 Tryd.underlying45 rfl rd_dsize rfl HRET.out.2.1 Tryd.underlying47 rfl rl_size) rfl ?_
                rw [HQ.out]
                exact ⟨_, _, (by rw [if_neg hz]; rfl), HRR.out, ⟨_, Nat.le_refl _, none_row _ _⟩, HRET.out.2.2⟩
          · have i3 : ¬ (en : Int) < (SL : Int) := by omega
            clear HWR
            clear c1 D1 o1 l1 q1 e1
            have HNX : Hid (nm.length ≤ maxLen) := Lib.hid (by have := HNM.out; unfold maxLen; omega)
            have hc : Calls Tryd.prog 48 #[.agg #[.int .i64 (c0 : Int), .slice A0 n0 cc0, .bool o0, .int .i64 (l0 : Int), .int .i64 q0], .string (crcm.mk nm)] X0 (RdTo X0 (vd.sync ⟨c0, D0, o0, l0, q0⟩ nm)) := use_sync HR0.out HO0.out HF0.out nm HNX.out
            have hok := vd.ok_sync HO0.out nm
            have hfw := vd.few_sync HF0.out nm
            go_wp2_with fail
            refine hc.mono ?_
            rintro e w1 ⟨v1, rfl, hR, b1⟩
            clear p0 p1 p2 p3 p4 z0 z1 z2 z3 z4 y0 y1 y2 y3 y4 s0 s1 s2 s3 s4 hc
            obtain ⟨e1, he1⟩ : ∃ x, (vd.sync ⟨c0, D0, o0, l0, q0⟩ nm).2 = x := ⟨_, rfl⟩
            obtain ⟨⟨c1, D1, o1, l1, q1⟩, hd⟩ : ∃ x, (vd.sync ⟨c0, D0, o0, l0, q0⟩ nm).1 = x := ⟨_, rfl⟩
            have HEQ1 : Hid (vd.sync ⟨c0, D0, o0, l0, q0⟩ nm = (⟨c1, D1, o1, l1, q1⟩, e1)) := Lib.hid (Prod.ext hd he1)
            rw [hd] at hR hok hfw
            rw [he1]
            obtain ⟨A1, n1, cc1, rfl⟩ := hR.form
            have hdb := HD0.out.later b1
            obtain ⟨p0, p1, p2, p3, p4, z0, z1, z2, z3, z4⟩ := hdb.one.five; obtain ⟨y0, y1, y2, y3, y4, s0, s1, s2, s3, s4⟩ := hdb.res.five
            have hR2 := hR.put hdb.one c1 (.slice A1 n1 cc1) o1 l1 q1
            have hdb2 := hdb.store c1 (.slice A1 n1 cc1) o1 l1 q1
            have hlr2 := (HLR.out.later b1).put m6 c1 (.slice A1 n1 cc1) o1 l1 q1
            have hap := (Apart.of_below b1 [b, r, lr]).trans ((put5_apart w1 b c1 (.slice A1 n1 cc1) o1 l1 q1).mono (T := [b, r, lr]) (by simp))
            clear h0 h1 h2 x0 x1 x2
            obtain ⟨X1, hX⟩ : ∃ X, put5 w1 b c1 (.slice A1 n1 cc1) o1 l1 q1 = X := ⟨_, rfl⟩
            rw [hX] at hR2 hdb2 hlr2 hap
            have HLR := Lib.hid hlr2
            have HAP := Lib.hid hap
            have HX := Lib.hid hX
            have HR1 : Hid (Rd X1 (.agg #[.int .i64 (c1 : Int), .slice A1 n1 cc1, .bool o1, .int .i64 (l1 : Int), .int .i64 q1]) ⟨c1, D1, o1, l1, q1⟩) := Lib.hid hR2
            have HD1 := Lib.hid hdb2
            have HO1 := Lib.hid hok
            have HF1 := Lib.hid hfw
            clear b1 he1 hd hR hdb hR2 hdb2 hok hfw hX hlr2 hap
            go_upto_region 11 with fail
            have hX := HX.out
            unfold put5 at hX
            rw [hX]
            clear hX p0 p1 p2 p3 p4 z0 z1 z2 z3 z4 y0 y1 y2 y3 y4 s0 s1 s2 s3 s4
            obtain ⟨h0, h1, h2, x0, x1, x2⟩ := HLR.out.one.three
            obtain ⟨p0, p1, p2, p3, p4, z0, z1, z2, z3, z4⟩ := HD1.out.one.five
            obtain ⟨y0, y1, y2, y3, y4, s0, s1, s2, s3, s4⟩ := HD1.out.res.five
            have HMD : Hid (wl.mend ⟨c0, D0, o0, l0, q0⟩ nm = (⟨c1, D1, o1, l1, q1⟩, e1)) := Lib.hid (by rw [HM.out, if_neg (by omega)]; exact HEQ1.out)
            have HTX : Hid (Strs X1 u ts) := Lib.hid (strs_of_owns rfl (owns_apart HOW.out HAP.out (fun x hx => HOWN.out x hx)))
            by_cases hz : e1 = 0
            · subst hz
              have HQ : Hid (wl.open_ ⟨c0, D0, o0, l0, q0⟩ nm = (⟨c1, D1, o1, l1, q1⟩, ts, 0)) := Lib.hid (by rw [HR.out, HG.out, if_neg (by simp), if_neg (by omega), HMD.out]; rfl)
              obtain ⟨Au, cu, rfl⟩ : ∃ A c, u = .slice A tn c := by
                have h := HTX.out
                obtain ⟨A, c, e, _⟩ := h
                exact ⟨A, c, by rw [e, HTN.out]⟩
              have HTX2 : Hid (∃ B, w.heap.size ≤ B ∧ (put3 (put5 X1 r c1 (.slice A1 n1 cc1) o1 l1 q1) lr nm tn false).ownsRow B 9 1 (.slice Au tn cu) ts.length (ts.map strV)) := Lib.hid ⟨_, HBS0.out, (owns_apart (owns_apart HOW.out (HAP.out.trans ((put5_apart X1 r c1 (.slice A1 n1 cc1) o1 l1 q1).mono (T := [b, r, lr]) (by simp))) (fun x hx => HOWN.out x hx)) ((put3_apart _ lr nm tn false).mono (T := [b, r, lr]) (by simp)) (fun x hx => HOWN.out x hx))⟩
              have HRET := Lib.hid (HD1.out.ret2 HLR.out m10 c1 (.slice A1 n1 cc1) o1 l1 q1 nm tn false)
              have HRR := Lib.hid (HR1.out.ret2 HD1.out HLR.out m10 c1 (.slice A1 n1 cc1) o1 l1 q1 nm tn false)
              go_wp2_with fail
              refine bodyPost_ret (results_c2tt rfl _ _ r lr _ _ _ _ (0, 0) (0, 0) _ _ rfl HRET.out.1 Tryd.underlying45 rfl rd_dsize rfl HRET.out.2.1 Tryd.underlying47 rfl rl_size) rfl ?_
              rw [HQ.out]
              exact ⟨_, _, (by rw [← HTN.out]; rfl), HRR.out, HTX2.out, HRET.out.2.2⟩
            · have iz : ¬ (e1 : Int) = 0 := by omega
              have HQ : Hid (wl.open_ ⟨c0, D0, o0, l0, q0⟩ nm = (⟨c1, D1, o1, l1, q1⟩, [], e1)) := Lib.hid (by rw [HR.out, HG.out, if_neg (by simp), if_neg (by omega), HMD.out, if_pos hz])
              have HRET := Lib.hid (HD1.out.ret2 HLR.out m10 c1 (.slice A1 n1 cc1) o1 l1 q1 [] 0 false)
              have HRR := Lib.hid (HR1.out.ret2 HD1.out HLR.out m10 c1 (.slice A1 n1 cc1) o1 l1 q1 [] 0 false)
              go_wp2_with fail
              refine bodyPost_ret (results_c2tt rfl _ _ r lr _ _ _ _ (0, 0) (0, 0) _ _ rfl HRET.out.1 Tryd.underlying45 rfl rd_dsize rfl HRET.out.2.1 Tryd.underlying47 rfl rl_size) rfl ?_
              rw [HQ.out]
              exact ⟨_, _, (by rw [if_neg hz]; rfl), HRR.out, ⟨_, Nat.le_refl _, none_row _ _⟩, HRET.out.2.2⟩
        · 
          have HMD : Hid (wl.mend ⟨c0, D0, o0, l0, q0⟩ nm = (⟨c1, D1, o1, l1, q1⟩, e1)) := Lib.hid (by rw [HM.out, if_pos (by simp)]; exact HWR.out)
          go_wp2_with fail
          have HCW : Hid (∀ w', Below X0.heap.size X0 w' → Calls Tryd.prog 47 #[.agg #[.int .i64 (c0 : Int), .slice A0 n0 cc0, .bool o0, .int .i64 (l0 : Int), .int .i64 q0], .string (crcm.mk nm), .string (crcm.mk (Sx.take en))] w' (fun e w2 => ∃ A n cc, e = .returned (.tuple #[.agg #[.int .i64 (c1 : Int), .slice A n cc, .bool o1, .int .i64 (l1 : Int), .int .i64 q1], .int .i64 (e1 : Int)]) ∧ Rd w2 (.agg #[.int .i64 (c1 : Int), .slice A n cc, .bool o1, .int .i64 (l1 : Int), .int .i64 q1]) ⟨c1, D1, o1, l1, q1⟩ ∧ Below w'.heap.size w' w2)) := Lib.hid fun w' hb => by
            refine (rd_write nm (Sx.take en) (HR0.out.later hb) HO0.out HF0.out HNM.out HTK.out).mono ?_
            rintro e w2 ⟨v2, rfl, hR, hb2⟩
            rw [HWR.out] at hR ⊢
            obtain ⟨A, n, cc, rfl⟩ := hR.form
            exact ⟨A, n, cc, rfl, hR, hb2⟩
          have hW : Below X0.heap.size X0 X0.drew := below_drewN (Below.refl _ X0) 1
          clear hsz2
          clear y0 y1 y2 y3 y4 s0 s1 s2 s3 s4 h0 h1 h2 x0 x1 x2
          go_cut [12] (fun s12 wx => ∃ A1 n1 cc1, s12 = .int .i64 (e1 : Int) ∧ DB w wx b r (rdC c1 (.slice A1 n1 cc1) o1 l1 q1) ∧ Rd wx (.agg #[.int .i64 (c1 : Int), .slice A1 n1 cc1, .bool o1, .int .i64 (l1 : Int), .int .i64 q1]) ⟨c1, D1, o1, l1, q1⟩ ∧ LX w wx lr [.string ⟨#[]⟩, .int .i64 0, .bool false] ∧ Apart [b, r, lr] X0 wx)
          case first =>
            go_region_with (first | (go_at_call 47; refine (HCW.out _ hW).mono ?_; rintro e w6 ⟨A6, n6, cc6, rfl, hR6, b6⟩; have hW := hW.trans (b6.mono hW.size); obtain ⟨p0, p1, p2, p3, p4, z0, z1, z2, z3, z4⟩ := (HD0.out.later hW).one.five))
            all_goals
              have HQD := Lib.hid ((HD0.out.later hW).store c1 (.slice A6 n6 cc6) o1 l1 q1)
              have HQR := Lib.hid (hR6.put (HD0.out.later hW).one c1 (.slice A6 n6 cc6) o1 l1 q1)
              have HQL := Lib.hid ((HLR.out.later hW).put m6 c1 (.slice A6 n6 cc6) o1 l1 q1)
              have HQA := Lib.hid ((Apart.of_below hW [b, r, lr]).trans ((put5_apart w6 b c1 (.slice A6 n6 cc6) o1 l1 q1).mono (T := [b, r, lr]) (by simp)))
              go_wp2_with fail
              go_meet
              exact ⟨A6, n6, cc6, rfl, HQD.out, HQR.out, HQL.out, HQA.out⟩
          case rest =>
            obtain ⟨A1, n1, cc1, rfl, hD1, hR1, hL1, hA1⟩ := hcut
            obtain ⟨X1, hX1⟩ : ∃ X, wc = X := ⟨_, rfl⟩
            rw [hX1] at hD1 hR1 hL1 hA1 ⊢
            have HD1 := Lib.hid hD1
            have HR1 : Hid (Rd X1 (.agg #[.int .i64 (c1 : Int), .slice A1 n1 cc1, .bool o1, .int .i64 (l1 : Int), .int .i64 q1]) ⟨c1, D1, o1, l1, q1⟩) := Lib.hid hR1
            have HLR := Lib.hid hL1
            have HAP := Lib.hid hA1
            clear hD1 hR1 hL1 hA1 hX1 hW p0 p1 p2 p3 p4 z0 z1 z2 z3 z4
            obtain ⟨p0, p1, p2, p3, p4, z0, z1, z2, z3, z4⟩ := HD1.out.one.five
            obtain ⟨y0, y1, y2, y3, y4, s0, s1, s2, s3, s4⟩ := HD1.out.res.five
            obtain ⟨h0, h1, h2, x0, x1, x2⟩ := HLR.out.one.three
            have HTX : Hid (Strs X1 u ts) := Lib.hid (strs_of_owns rfl (owns_apart HOW.out HAP.out (fun x hx => HOWN.out x hx)))
            by_cases hz : e1 = 0
            · subst hz
              have HQ : Hid (wl.open_ ⟨c0, D0, o0, l0, q0⟩ nm = (⟨c1, D1, o1, l1, q1⟩, ts, 0)) := Lib.hid (by rw [HR.out, HG.out, if_neg (by simp), if_neg (by omega), HMD.out]; rfl)
              obtain ⟨Au, cu, rfl⟩ : ∃ A c, u = .slice A tn c := by
                have h := HTX.out
                obtain ⟨A, c, e, _⟩ := h
                exact ⟨A, c, by rw [e, HTN.out]⟩
              have HTX2 : Hid (∃ B, w.heap.size ≤ B ∧ (put3 (put5 X1 r c1 (.slice A1 n1 cc1) o1 l1 q1) lr nm tn false).ownsRow B 9 1 (.slice Au tn cu) ts.length (ts.map strV)) := Lib.hid ⟨_, HBS0.out, (owns_apart (owns_apart HOW.out (HAP.out.trans ((put5_apart X1 r c1 (.slice A1 n1 cc1) o1 l1 q1).mono (T := [b, r, lr]) (by simp))) (fun x hx => HOWN.out x hx)) ((put3_apart _ lr nm tn false).mono (T := [b, r, lr]) (by simp)) (fun x hx => HOWN.out x hx))⟩
              have HRET := Lib.hid (HD1.out.ret2 HLR.out m10 c1 (.slice A1 n1 cc1) o1 l1 q1 nm tn false)
              have HRR := Lib.hid (HR1.out.ret2 HD1.out HLR.out m10 c1 (.slice A1 n1 cc1) o1 l1 q1 nm tn false)
              go_wp2_with fail
              refine bodyPost_ret (results_c2tt rfl _ _ r lr _ _ _ _ (0, 0) (0, 0) _ _ rfl HRET.out.1 Tryd.underlying45 rfl rd_dsize rfl HRET.out.2.1 Tryd.underlying47 rfl rl_size) rfl ?_
              rw [HQ.out]
              exact ⟨_, _, (by rw [← HTN.out]; rfl), HRR.out, HTX2.out, HRET.out.2.2⟩
            · have iz : ¬ (e1 : Int) = 0 := by omega
              have HQ : Hid (wl.open_ ⟨c0, D0, o0, l0, q0⟩ nm = (⟨c1, D1, o1, l1, q1⟩, [], e1)) := Lib.hid (by rw [HR.out, HG.out, if_neg (by simp), if_neg (by omega), HMD.out, if_pos hz])
              have HRET := Lib.hid (HD1.out.ret2 HLR.out m10 c1 (.slice A1 n1 cc1) o1 l1 q1 [] 0 false)
              have HRR := Lib.hid (HR1.out.ret2 HD1.out HLR.out m10 c1 (.slice A1 n1 cc1) o1 l1 q1 [] 0 false)
              go_wp2_with fail
              refine bodyPost_ret (results_c2tt rfl _ _ r lr _ _ _ _ (0, 0) (0, 0) _ _ rfl HRET.out.1 Tryd.underlying45 rfl rd_dsize rfl HRET.out.2.1 Tryd.underlying47 rfl rl_size) rfl ?_
              rw [HQ.out]
              exact ⟨_, _, (by rw [if_neg hz]; rfl), HRR.out, ⟨_, Nat.le_refl _, none_row _ _⟩, HRET.out.2.2⟩
end
end Go.Proofs.YtdnoeahhidmkbaaDoor
