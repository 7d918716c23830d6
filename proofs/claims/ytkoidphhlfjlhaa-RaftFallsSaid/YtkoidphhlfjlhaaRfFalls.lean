/- law17's RaftFalls: walked. -/
import Derived.Test.YtkoidphhlfjlhaaRfPure
namespace Go.Proofs.Ytkoidphhlfjlhaa
open Go Go.RowKit Go.Deep
set_option maxRecDepth 100000

theorem _root_.Go.RowKit.Below.setOne {B : Nat} {w w' : World} (h : Below B w w') (b j : Nat) (x : Value) (hb : B ≤ b) : Below B w (w'.setCell ⟨b, j, none⟩ x) := h.setCell (p := ⟨b, j, none⟩) hb x
theorem msgC_no (m : rf.Msg) (A : Option Addr) (k c : Nat) : ∀ u ∈ msgC m (.slice A k c), ∀ s, u ≠ .string s := by
  intro u hu s e
  subst e
  simp [msgC] at hu
theorem msgC_no0 {vs : List Value} (h : ∀ u ∈ vs, ∀ s, u ≠ .string s) (j : Nat) (k : IntKind) (x : Int) : ∀ u ∈ vs.set j (.int k x), ∀ s, u ≠ .string s := by
  intro u hu s e
  rcases List.mem_or_eq_of_mem_set hu with h1 | h1
  · exact h u h1 s e
  · subst e
    cases h1
theorem NBox.farM {w : World} {g b : Nat} {vs : List Value} {n : rf.Node} {A : Option Addr} {c : Nat} (h : NBox w g n A c) (hb : Blk w b vs 27) (hs : ∀ u ∈ vs, ∀ s, u ≠ .string s) (hne : g ≠ b) (j : Nat) (x : Value) : NBox (w.setCell ⟨b, j, none⟩ x) g n A c :=
  ⟨h.blk.other _ _ hne, h.ents.far hb hs j x, h.ok⟩
/-- what is told where a message is not for a node -/
def Still (w : World) (n : rf.Node) (e : Ending) (w' : World) : Prop :=
  ∃ A c B d, e = .returned (.tuple #[.agg (ndC n (.slice A n.log.length c)).toArray, .slice B 0 d]) ∧ Ents w' (.slice A n.log.length c) n.log ∧ MsgsIn w' (.slice B 0 d) [] ∧ NOk n ∧ Below w.heap.size w w'
theorem told_still {n : rf.Node} {m : rf.Msg} (h : rf.meant n m = false) (w : World) : ∀ e w', Told w (rf.step n m).1 (rf.step n m).2 e w' → Still w n e w' := by
  rw [step_not h]
  exact fun e w' h => h
set_option maxHeartbeats 8000000 in
theorem falls_any (k : Nat) (mu : Value) (m : rf.Msg) (q : Nat) (w : World) (hE2 : Ents w mu m.ents) (hF2 : Fine m.ents) (hix : m.index < 18446744073709551616) (hk : k < 256) (hq : q < 256) :
    Calls Try.prog 4 #[.int .u8 (k : Int), msgV m mu, .int .u8 (q : Int)] w fun e w' => e = .returned (.bool true) ∧ Below w.heap.size w w' := by
  obtain ⟨A2, c2, rfl, hd1, hd2, hd3⟩ := id hE2
  clear hd1 hd2 hd3
  obtain ⟨Y, bm, hY, hbm, hbY, km⟩ := box_blk w (msgC m (.slice A2 m.ents.length c2)) 27
  have hB2 := fun W (hb : Below w.heap.size w W) => bounded_any (.slice A2 m.ents.length c2) m.ents W (hE2.below hb) hF2
  obtain ⟨b2, hb2⟩ : ∃ b, okEnts m.ents = b := ⟨_, rfl⟩
  have hm40 : b2 = true → m.ents.length ≤ 40 := fun h => by
    rw [← hb2] at h
    unfold okEnts at h
    simp at h
    exact h.1
  rw [hb2] at hB2
  obtain ⟨L2, hL2⟩ : ∃ L, m.ents.length = L := ⟨_, rfl⟩
  have hE2Y := hE2.below hbY
  rw [hL2] at hB2 hY km hm40 hE2Y ⊢
  have HY : Hid (w.alloc (.cells (msgC m (.slice A2 L2 c2)).toArray 27) = Y) := Lib.hid hY
  have HXY := Lib.hid hbY
  have HKM := Lib.hid km
  have HB2 := Lib.hid hB2
  have HM40 := Lib.hid hm40
  have HE2Y := Lib.hid hE2Y
  have HIX := Lib.hid hix
  have HL2 := Lib.hid hL2
  have HBM := Lib.hid hbm
  have m7 := HKM.out.cell 7 _ rfl
  have HS := Lib.hid m7
  clear hY km hbY hB2 hE2 hF2 hm40 hE2Y hix hL2 hb2 hbm m7
  unfold msgV
  go_enter Try.func4, Try.ntmps4
  go_upto_region 1 with fail
  rw [HY.out, HBM.out]
  have m7 := HS.out
  cases b2
  · go_upto_if 25 with (first | (go_at_call 5; with_reducible refine (HB2.out _ HXY.out).mono ?_; rintro e w1 ⟨rfl, rfl⟩))
    go_wp2_with (first | (go_at_call 6; refine (shown17_any _).mono ?_; rintro e w1 ⟨rfl, hb1⟩))
    go_ret
    exact ⟨rfl, HXY.out.trans (hb1.mono HXY.out.size)⟩
  have hl240 := HM40.out rfl
  go_upto_if 25 with (first | (go_at_call 5; with_reducible refine (HB2.out _ HXY.out).mono ?_; rintro e w1 ⟨rfl, rfl⟩) | (go_at_call 6; refine (shown17_any _).mono ?_; rintro e w1 ⟨rfl, hb1⟩))
  clear m7 HB2 HM40 HS
  have HKM1 := Lib.hid (HKM.out.below hb1)
  have HE2Y1 := Lib.hid (HE2Y.out.below hb1)
  have HB1 := Lib.hid (HXY.out.trans (hb1.mono HXY.out.size))
  obtain ⟨n0, hn0⟩ : ∃ n0, rf.new 0 3 0 (-1) [] = n0 := ⟨_, rfl⟩
  have hok0 : NOk n0 := by rw [← hn0]; exact ⟨rfl, rfl, rfl, by intro x hx; simp [rf.new] at hx; omega, by intro x hx; simp [rf.new] at hx; omega⟩
  have hg0 : Good n0 := by rw [← hn0]; exact ⟨by decide, by decide, by decide, by decide, by decide⟩
  have hnew : ∀ w : World, Calls Try.prog 7 #[.int .i64 0, .int .i64 3, .agg #[.int .u64 0, .int .i64 (-1), .slice none 0 0]] w fun e w' => e = .returned (.tuple #[.agg (ndC n0 (.slice none 0 0)).toArray, .int .i64 0]) ∧ Below w.heap.size w w' := by
    intro w
    have h := new_any 0 3 0 (-1) none 0 0 [] w (by decide) (by decide) (by decide) (by decide)
    rw [hn0] at h
    exact h
  have HN := Lib.hid hnew
  have HF0 : Hid (n0.id = 0 ∧ n0.many = 3 ∧ n0.term = 0 ∧ n0.log = []) := Lib.hid (by rw [← hn0]; exact ⟨rfl, rfl, rfl, rfl⟩)
  have HOK0 := Lib.hid hok0
  have HG0 := Lib.hid hg0
  have HS0 : Hid ((ndC n0 (.slice none 0 0)).toArray.size = 30) := Lib.hid (by rw [List.size_toArray, ndC_len hok0])
  clear hb1 HKM HE2Y HXY hnew hok0 hg0 hn0
  go_upto_if 33 with (first | (go_at_call 7; refine (HN.out _).mono ?_; rintro e w2 ⟨rfl, hb2⟩; have HZ : Hid (Blk (w2.alloc (.cells #[.int .i64 0, .int .i64 0, .int .u64 0, .int .i64 0, .slice none 0 0, .int .i64 0, .int .i64 0, .int .u64 0, .int .i64 0, .bool false, .bool false, .bool false, .bool false, .bool false, .bool false, .bool false, .int .u64 0, .int .u64 0, .int .u64 0, .int .u64 0, .int .u64 0, .int .u64 0, .int .u64 0, .int .u64 0, .int .u64 0, .int .u64 0, .int .u64 0, .int .u64 0, .int .u64 0, .int .u64 0] 33)) w2.heap.size (ndC zeroN nilV) 33) := Lib.hid (Blk.new w2 _ _)) | (refine wpList_store_row rfl 33 (.tmp 7) (.tmp 30) rfl w2.heap.size _ rfl rfl _ _ HZ.out (by rw [node_size, HS0.out]) (by rw [HS0.out]; rfl) (ndC_one rfl) ?_))
  have hx0 := NBox.laid (w := w2) (n := n0) (A := none) (c := 0) (by rw [HF0.out.2.2.2]; exact (EntsB.nil 0 _).1) HOK0.out
  have hlen0 : n0.log.length = 0 := by rw [HF0.out.2.2.2]; rfl
  rw [hlen0] at hx0
  obtain ⟨hx0, hb3⟩ := hx0
  have hbz := HB1.out.trans ((hb2.trans (hb3.mono hb2.size)).mono HB1.out.size)
  have hkm2 := (HKM1.out.below hb2).below hb3
  have he22 := (HE2Y1.out.below hb2).below hb3
  obtain ⟨bx, hbx⟩ : ∃ x, w2.heap.size = x := ⟨_, rfl⟩
  obtain ⟨W2, hW2⟩ : ∃ W, (w2.alloc (.cells #[.int .i64 0, .int .i64 0, .int .u64 0, .int .i64 0, .slice none 0 0, .int .i64 0, .int .i64 0, .int .u64 0, .int .i64 0, .bool false, .bool false, .bool false, .bool false, .bool false, .bool false, .bool false, .int .u64 0, .int .u64 0, .int .u64 0, .int .u64 0, .int .u64 0, .int .u64 0, .int .u64 0, .int .u64 0, .int .u64 0, .int .u64 0, .int .u64 0, .int .u64 0, .int .u64 0, .int .u64 0] 33)).setRow w2.heap.size (ndC n0 (.slice none 0 0)).toArray = W := ⟨_, rfl⟩
  rw [hW2] at hx0 hbz hkm2 he22 ⊢
  rw [hbx] at hx0 ⊢
  have HX0 := Lib.hid hx0
  have HBX : Hid (w.heap.size ≤ bx) := Lib.hid (by rw [← hbx]; exact Nat.le_trans HB1.out.size hb2.size)
  have HNE : Hid (bm < bx) := Lib.hid (by rw [← hbx]; exact (HKM1.out.below hb2).lt)
  have HB0 := Lib.hid hbz
  have HKM2 := Lib.hid hkm2
  have HE22 := Lib.hid he22
  have HLEN0 := Lib.hid hlen0
  have HWM : Hid (w.heap.size ≤ bm) := Lib.hid (Nat.le_of_eq HBM.out)
  clear hx0 hbz hb2 hb3 HZ hbx hW2 hkm2 he22 hlen0 HKM1 HE2Y1 HB1
  obtain ⟨p, hp⟩ : ∃ p, k % 30 = p := ⟨_, rfl⟩
  have hmod : Int.tmod (k : Int) 30 = (p : Int) := by rw [← hp]; exact Int.tmod_eq_emod_of_nonneg (by omega)
  have hp30 : p < 30 := by omega
  have HL240 := Lib.hid hl240
  have HHQ := Lib.hid hq
  clear hl240 hp HY hq
  go_wp2_with fail
  go_loopw [9] (fun i wr => ∃ (j : Nat) (A : Option Addr) (c : Nat), j ≤ p ∧ i = .int .i64 j ∧ NBox wr bx (ticks n0 j) A c ∧ Below w.heap.size w wr ∧ Blk wr bm (msgC m (.slice A2 L2 c2)) 27 ∧ Ents wr (.slice A2 L2 c2) m.ents) (fun i _ => p - (intOf i).toNat)
  case atStart => exact ⟨0, none, 0, by omega, rfl, HX0.out, HB0.out, HKM2.out, HE22.out⟩
  case round =>
    obtain ⟨j, A3, c3, hj, rfl, hx, hbel, hkm, hem⟩ := hrel
    by_cases hlt : j < p
    · obtain ⟨g1, g2, g3, g4⟩ := ticks_good HG0.out j
      have hlen : (ticks n0 j).log.length ≤ 9990 := by
        have := HLEN0.out
        omega
      have hcall := tick_any (ticks n0 j) A3 c3 wr hx.ents hx.ok g1.m0 g1.id0 g1.id7 g1.i0 (by have := g1.i1; omega) hlen
      have hxb : Blk wr bx (ndC (ticks n0 j) (.slice A3 (ticks n0 j).log.length c3)) 33 := hx.blk
      have hs := size30 hx.ok (.slice A3 (ticks n0 j).log.length c3)
      unfold ndV at hcall
      obtain ⟨N, hN⟩ : ∃ N, ticks n0 j = N := ⟨_, rfl⟩
      have hN2 : (rf.tick N).1 = ticks n0 (j + 1) := by rw [← hN]; rfl
      rw [hN] at hcall hxb hs hx
      obtain ⟨ev, hev⟩ : ∃ ev, Value.slice A3 N.log.length c3 = ev := ⟨_, rfl⟩
      have hno := ndC_no N A3 N.log.length c3
      rw [hev] at hcall hxb hs hno
      have HCL := Lib.hid hcall
      have HXB := Lib.hid hxb
      have HSN := Lib.hid hs
      have HNO := Lib.hid hno
      have HN2 := Lib.hid hN2
      have HBE := Lib.hid hbel
      have HKMR := Lib.hid hkm
      have HEMR := Lib.hid hem
      have hbw : w.heap.size ≤ bx := HBX.out
      clear hcall hxb hs hno hN hN2 hev hx hbel g1 g2 g3 g4 hlen hkm hem
      go_wp2_with (first | (refine wpList_load_row rfl 33 _ rfl bx rfl _ _ _ _ HXB.out Try.underlying33 rfl (by rw [node_size, HSN.out]) ?_) | (go_at_call 8; refine HCL.out.mono ?_; rintro e w6 ⟨nv, sv, rfl, A6, c6, B6, d6, rfl, rfl, he6, hs6, ok6, hb6⟩; rw [HN2.out] at he6 ok6 ⊢; unfold ndV; have HB6 := Lib.hid (HXB.out.below hb6); have HS6 := Lib.hid (size30 ok6 (.slice A6 (ticks n0 (j + 1)).log.length c6))) | (refine wpList_store_row rfl 33 (.tmp 7) (.tmp 44) rfl bx _ rfl rfl _ _ HB6.out (by rw [node_size, HS6.out]) (by rw [HS6.out, HSN.out]) (ndC_one rfl) ?_))
      have hfill := NBox.fill (n := ticks n0 (j + 1)) (A := A6) (c := c6) HB6.out HNO.out he6.1 ok6
      have hb7 : Below w.heap.size w (w6.setRow bx (ndC (ticks n0 (j + 1)) (.slice A6 (ticks n0 (j + 1)).log.length c6)).toArray) := (HBE.out.trans (hb6.mono HBE.out.size)).trans (below_setRow _ _ _ hbw)
      have hkm7 := (setRow_apart w6 bx (ndC (ticks n0 (j + 1)) (.slice A6 (ticks n0 (j + 1)).log.length c6)).toArray bm (Nat.ne_of_lt HNE.out)).trans (HKMR.out.below hb6)
      have hem7 := (HEMR.out.below hb6).farRow (us := ndC (ticks n0 (j + 1)) (.slice A6 (ticks n0 (j + 1)).log.length c6)) HB6.out HNO.out
      have HF := Lib.hid hfill
      have HB7 := Lib.hid hb7
      have HKM7 := Lib.hid hkm7
      have HEM7 := Lib.hid hem7
      clear hfill hb7 he6 hs6 ok6 hb6 hkm7 hem7
      go_wp2_with fail
      go_roundw
      case rel => exact ⟨j + 1, A6, c6, by omega, by go_num, HF.out, HB7.out, HKM7.out, HEM7.out⟩
      case measure => simp [intOf]; omega
    · obtain rfl : j = p := by omega
      obtain ⟨g1, g2, g3, g4⟩ := ticks_good HG0.out j
      have g5 := ticks_term HG0.out j
      obtain ⟨z1, z2, z3, z4⟩ := HF0.out
      have hlen : (ticks n0 j).log.length ≤ 40 := by have := HLEN0.out; omega
      rw [z1] at g2
      rw [z2] at g3
      rw [z3] at g5
      obtain ⟨N, hN⟩ : ∃ N, ticks n0 j = N := ⟨_, rfl⟩
      rw [hN] at hx g1 g2 g3 g5 hlen
      have hq := HHQ.out
      obtain ⟨r4, hr4⟩ : ∃ r, q % 4 = r := ⟨_, rfl⟩
      obtain ⟨r2, hr2⟩ : ∃ r, q % 2 = r := ⟨_, rfl⟩
      have hm4 : Int.tmod (q : Int) 4 = (r4 : Int) := by rw [← hr4]; exact Int.tmod_eq_emod_of_nonneg (by omega)
      have hm2 : Int.tmod (q : Int) 2 = (r2 : Int) := by rw [← hr2]; exact Int.tmod_eq_emod_of_nonneg (by omega)
      have hr4' : r4 < 4 := by omega
      have hr2' : r2 < 2 := by omega
      obtain ⟨K4, hK4⟩ : ∃ t, 1 + r4 = t := ⟨_, rfl⟩
      obtain ⟨K2, hK2⟩ : ∃ t, 1 + r2 = t := ⟨_, rfl⟩
      obtain ⟨K3, hK3⟩ : ∃ t, 3 + q = t := ⟨_, rfl⟩
      obtain ⟨Tm, hTm⟩ : ∃ t, N.term + 1 + q = t := ⟨_, rfl⟩
      obtain ⟨m1, hm1⟩ : ∃ x : rf.Msg, { m with kind := (K4 : Int), frm := (K2 : Int), dst := 0, term := Tm } = x := ⟨_, rfl⟩
      obtain ⟨m2, hm2x⟩ : ∃ x : rf.Msg, { m1 with dst := 1 } = x := ⟨_, rfl⟩
      obtain ⟨m3, hm3⟩ : ∃ x : rf.Msg, { m1 with frm := (K3 : Int) } = x := ⟨_, rfl⟩
      obtain ⟨m4, hm4x⟩ : ∃ x : rf.Msg, { m1 with frm := 0 } = x := ⟨_, rfl⟩
      have hl2 := HL2.out
      have hl240 := HL240.out
      have hme1 : rf.meant N m1 = true := by rw [← hm1]; simp [rf.meant, g2, g3]; omega
      have hme2 : rf.meant N m2 = false := by rw [← hm2x]; simp [rf.meant, g2]
      have hme3 : rf.meant N m3 = false := by rw [← hm3]; simp only [rf.meant, g3, Bool.and_eq_false_iff, decide_eq_false_iff_not]; omega
      have hme4 : rf.meant N m4 = false := by rw [← hm4x]; simp [rf.meant, g2]
      obtain ⟨r0, tt, cc⟩ := step_falls hme1 (by rw [← hm1]; dsimp only; omega)
      have hen : ∀ x : rf.Msg, x.ents = m.ents → x.index = m.index → ∀ W, Ents W (.slice A3 N.log.length c3) N.log → Ents W (.slice A2 L2 c2) m.ents → Calls Try.prog 10 #[.agg (ndC N (.slice A3 N.log.length c3)).toArray, .agg (msgC x (.slice A2 L2 c2)).toArray] W fun e w' => Told W (rf.step N x).1 (rf.step N x).2 e w' := fun x e1 e2 W h1 h2 => step_told N x A3 c3 A2 L2 c2 W h1 (by rw [e1]; exact h2) hx.ok g1.m0 g1.id0 g1.id7 (by omega) (by rw [e1]; omega) (by rw [e2]; exact HIX.out)
      have hs1 := hen m1 (by rw [← hm1]) (by rw [← hm1])
      have hs2 := hen m2 (by rw [← hm2x, ← hm1]) (by rw [← hm2x, ← hm1])
      have hs3 := hen m3 (by rw [← hm3, ← hm1]) (by rw [← hm3, ← hm1])
      have hs4 := hen m4 (by rw [← hm4x, ← hm1]) (by rw [← hm4x, ← hm1])
      have hs2 := fun W h1 h2 => (hs2 W h1 h2).mono (told_still hme2 W)
      have hs3 := fun W h1 h2 => (hs3 W h1 h2).mono (told_still hme3 W)
      have hs4 := fun W h1 h2 => (hs4 W h1 h2).mono (told_still hme4 W)
      obtain ⟨N1, hN1⟩ : ∃ x, (rf.step N m1).1 = x := ⟨_, rfl⟩
      obtain ⟨M1, hM1⟩ : ∃ x, (rf.step N m1).2 = x := ⟨_, rfl⟩
      rw [hN1, hM1] at hs1
      rw [hN1] at r0 tt cc
      have hmt : m1.term = Tm := by rw [← hm1]
      rw [hmt] at tt
      have hcc : decide (N1.commit < N.commit) = false := by simp; exact cc
      have HS1 := Lib.hid hs1
      have HS2 := Lib.hid hs2
      have HS3 := Lib.hid hs3
      have HS4 := Lib.hid hs4
      have HITN := Lib.hid (its_told N hx.ok (by omega))
      have HSMN := Lib.hid (same_told N hx.ok (by omega))
      have HR0 := Lib.hid r0
      have HTT := Lib.hid tt
      have HCC := Lib.hid hcc
      have HOKN := Lib.hid hx.ok
      have HSN := Lib.hid (size30 hx.ok (.slice A3 N.log.length c3))
      have hne := Nat.ne_of_lt HNE.out
      have HNB : Hid (bx ≠ bm) := Lib.hid (fun e => hne e.symm)
      have ks0 := (((hkm.set 0 (.int .i64 (K4 : Int))).set 1 (.int .i64 (K2 : Int))).set 2 (.int .i64 0)).set 3 (.int .u64 (Tm : Int))
      have ks1 : Blk ((((wr.setCell ⟨bm, 0, none⟩ (.int .i64 (K4 : Int))).setCell ⟨bm, 1, none⟩ (.int .i64 (K2 : Int))).setCell ⟨bm, 2, none⟩ (.int .i64 0)).setCell ⟨bm, 3, none⟩ (.int .u64 (Tm : Int))) bm (msgC m1 (.slice A2 L2 c2)) 27 := by rw [← hm1]; exact ks0
      have HKS := Lib.hid ks1
      have no0 := msgC_no m A2 L2 c2
      have no1 := msgC_no0 no0 0 .i64 (K4 : Int)
      have no2 := msgC_no0 no1 1 .i64 (K2 : Int)
      have no3 := msgC_no0 no2 2 .i64 0
      have kk0 := hkm
      have kk1 := kk0.set 0 (.int .i64 (K4 : Int))
      have kk2 := kk1.set 1 (.int .i64 (K2 : Int))
      have kk3 := kk2.set 2 (.int .i64 0)
      have hx4 := hx
      have he4 := hem
      have hx4' := hx4.farM kk0 no0 HNB.out 0 (.int .i64 (K4 : Int))
      have he4' := he4.far kk0 no0 0 (.int .i64 (K4 : Int))
      clear hx4 he4
      have hx4 := hx4'
      have he4 := he4'
      clear hx4' he4'
      have hx4' := hx4.farM kk1 no1 HNB.out 1 (.int .i64 (K2 : Int))
      have he4' := he4.far kk1 no1 1 (.int .i64 (K2 : Int))
      clear hx4 he4
      have hx4 := hx4'
      have he4 := he4'
      clear hx4' he4'
      have hx4' := hx4.farM kk2 no2 HNB.out 2 (.int .i64 0)
      have he4' := he4.far kk2 no2 2 (.int .i64 0)
      clear hx4 he4
      have hx4 := hx4'
      have he4 := he4'
      clear hx4' he4'
      have hx4' := hx4.farM kk3 no3 HNB.out 3 (.int .u64 (Tm : Int))
      have he4' := he4.far kk3 no3 3 (.int .u64 (Tm : Int))
      clear hx4 he4
      have hx4 := hx4'
      have he4 := he4'
      clear hx4' he4'
      have HX := Lib.hid hx4
      have HEM := Lib.hid he4
      clear kk0 kk1 kk2 kk3 no0 no1 no2 no3
      have hb4 := (((hbel.setOne bm 0 (.int .i64 (K4 : Int)) HWM.out).setOne bm 1 (.int .i64 (K2 : Int)) HWM.out).setOne bm 2 (.int .i64 0) HWM.out).setOne bm 3 (.int .u64 (Tm : Int)) HWM.out
      have HBW := Lib.hid hb4
      have HTM := Lib.hid hTm
      have q0 := hkm.cell 0 _ rfl
      have q1 := hkm.cell 1 _ rfl
      have q2 := hkm.cell 2 _ rfl
      have q3 := hkm.cell 3 _ rfl
      have f0 := hkm.free 0
      have f1 := hkm.free 1
      have f2 := hkm.free 2
      have f3 := hkm.free 3
      have t2 := hx.blk.cell 2 _ rfl
      have HM1 : Hid (m2 = { m1 with dst := 1 } ∧ m3 = { m1 with frm := (K3 : Int) } ∧ m4 = { m1 with frm := 0 } ∧ m1.dst = 0 ∧ m1.term = Tm) := Lib.hid ⟨hm2x.symm, hm3.symm, hm4x.symm, by rw [← hm1], hmt⟩
      have HQ := Lib.hid hq
      have hsum1 : (1 : Int) + (r4 : Int) = (K4 : Int) := by omega
      have hsum2 : (1 : Int) + (r2 : Int) = (K2 : Int) := by omega
      have hsum4 : (3 : Int) + (q : Int) = (K3 : Int) := by omega
      have hsum3 : (N.term : Int) + 1 + (q : Int) = (Tm : Int) := by omega
      have hTmb : Tm < 1000 := by omega
      clear hen hs1 hs2 hs3 hs4 r0 tt cc hcc ks0 ks1 hx4 he4 hb4 hne hme1 hme2 hme3 hme4 hm1 hm2x hm3 hm4x hmt hN1 hM1 hTm hr4 hr2 hK4 hK2 hK3 g1 g2 g3 g4 hlen hN hl2 hl240 z1 z2 z3 z4 hx hem hkm hbel HX0 HBX HNE HB0 HKM2 HE22 HLEN0 HN HOK0 HG0 HS0 HIX HL2 HL240 HF0 hp30 hj HHQ
      have hnb : ¬ bx = bm := HNB.out
      have hnb2 : ¬ bm = bx := fun e => hnb e.symm
      go_upto_region 14 with fail
      clear hnb hnb2 q0 q1 q2 q3 f0 f1 f2 f3 t2 hsum1 hsum2 hsum3 hm4 hm2 hr4' hr2' g5
      have hx4 := HX.out
      have he4 := HEM.out
      have ks4 := HKS.out
      have hb4 := HBW.out
      obtain ⟨W4, hW4⟩ : ∃ W, (((wr.setCell ⟨bm, 0, none⟩ (.int .i64 (K4 : Int))).setCell ⟨bm, 1, none⟩ (.int .i64 (K2 : Int))).setCell ⟨bm, 2, none⟩ (.int .i64 0)).setCell ⟨bm, 3, none⟩ (.int .u64 (Tm : Int)) = W := ⟨_, rfl⟩
      rw [hW4] at hx4 he4 ks4 hb4 ⊢
      clear HX HEM HKS HBW hW4
      have HX := Lib.hid hx4
      have HEM := Lib.hid he4
      have HKS := Lib.hid ks4
      have HBW := Lib.hid hb4
      clear hx4 he4 ks4 hb4
      have HSM : Hid (∀ x : rf.Msg, (msgC x (.slice A2 L2 c2)).toArray.size = 9) := Lib.hid (fun _ => rfl)
      go_upto_region 15 with (first | (refine wpList_load_row rfl 33 _ rfl bx rfl _ _ _ _ HX.out.blk Try.underlying33 rfl (by rw [node_size, HSN.out]) ?_) | (refine wpList_load_row rfl 27 _ rfl bm rfl _ _ _ _ HKS.out Try.underlying27 rfl (by rw [msg_size]; rfl) ?_) | (go_at_call 10; refine (HS1.out _ HX.out.ents HEM.out).mono ?_; rintro e w6 ⟨Ab1, cb1, Bb1, db1, rfl, he6, hs6, ok6, hb6⟩; have HZ : Hid (Blk (w6.alloc (.cells #[.int .i64 0, .int .i64 0, .int .u64 0, .int .i64 0, .slice none 0 0, .int .i64 0, .int .i64 0, .int .u64 0, .int .i64 0, .bool false, .bool false, .bool false, .bool false, .bool false, .bool false, .bool false, .int .u64 0, .int .u64 0, .int .u64 0, .int .u64 0, .int .u64 0, .int .u64 0, .int .u64 0, .int .u64 0, .int .u64 0, .int .u64 0, .int .u64 0, .int .u64 0, .int .u64 0, .int .u64 0] 33)) w6.heap.size (ndC zeroN nilV) 33) := Lib.hid (Blk.new w6 _ _); have HS6 := Lib.hid (size30 ok6 (.slice Ab1 N1.log.length cb1))) | (refine wpList_store_row rfl 33 (.tmp 10) (.tmp 69) rfl w6.heap.size _ rfl rfl _ _ HZ.out (by rw [node_size, HS6.out]) (by rw [HS6.out]; rfl) (ndC_one rfl) ?_))
      obtain ⟨hx6, hbL⟩ := NBox.laid he6 ok6
      have hbq := hb6.trans (hbL.mono hb6.size)
      have hbW := HBW.out.trans (hbq.mono HBW.out.size)
      have kHX := HX.out.later hbq
      have kHKS := HKS.out.below hbq
      have kHEM := HEM.out.below hbq
      obtain ⟨b1, hb1⟩ : ∃ x, w6.heap.size = x := ⟨_, rfl⟩
      obtain ⟨Wb1, hWb1⟩ : ∃ W, (w6.alloc (.cells #[.int .i64 0, .int .i64 0, .int .u64 0, .int .i64 0, .slice none 0 0, .int .i64 0, .int .i64 0, .int .u64 0, .int .i64 0, .bool false, .bool false, .bool false, .bool false, .bool false, .bool false, .bool false, .int .u64 0, .int .u64 0, .int .u64 0, .int .u64 0, .int .u64 0, .int .u64 0, .int .u64 0, .int .u64 0, .int .u64 0, .int .u64 0, .int .u64 0, .int .u64 0, .int .u64 0, .int .u64 0] 33)).setRow w6.heap.size (ndC N1 (.slice Ab1 N1.log.length cb1)).toArray = W := ⟨_, rfl⟩
      rw [hWb1] at hx6 hbW kHX kHKS kHEM ⊢
      rw [hb1] at hx6 ⊢
      have HXb1 := Lib.hid hx6
      have HBW := Lib.hid hbW
      have HX := Lib.hid kHX
      have HKS := Lib.hid kHKS
      have HEM := Lib.hid kHEM
      clear hx6 hbW kHX kHKS kHEM hWb1 hb1 hbq hbL he6 hb6 HZ HS6 hs6 ok6
      have d5 := HXb1.out.blk.cell 5 _ rfl
      rw [HR0.out] at d5
      have d2 := HXb1.out.blk.cell 2 _ rfl
      rw [HTT.out] at d2
      have d7 := HXb1.out.blk.cell 7 _ rfl
      have x7 := HX.out.blk.cell 7 _ rfl
      have m3c := HKS.out.cell 3 _ rfl
      rw [HM1.out.2.2.2.2] at m3c
      have hcc := HCC.out
      go_upto_if 88 with fail
      try rw [hcc]
      clear d5 d2 d7 x7 m3c hcc HXb1
      have q2 := HKS.out.cell 2 _ rfl
      have f2 := HKS.out.free 2
      go_upto_region 18 with fail
      clear q2 f2
      have no0 := fun x => msgC_no x A2 L2 c2
      have kx := HX.out.farM HKS.out (no0 _) HNB.out 2 (.int .i64 1)
      have ke := HEM.out.far HKS.out (no0 _) 2 (.int .i64 1)
      have ks : Blk (Wb1.setCell ⟨bm, 2, none⟩ (.int .i64 1)) bm (msgC m2 (.slice A2 L2 c2)) 27 := by have h := HKS.out.set 2 (.int .i64 1); rw [HM1.out.1]; exact h
      have kb := HBW.out.setOne bm 2 (.int .i64 1) HWM.out
      clear HX HEM HKS HBW
      have HX := Lib.hid kx
      have HEM := Lib.hid ke
      have HKS := Lib.hid ks
      have HBW := Lib.hid kb
      clear kx ke ks kb 
      clear no0
      have hx4 := HX.out
      have he4 := HEM.out
      have ks4 := HKS.out
      have hb4 := HBW.out
      obtain ⟨W5, hW4⟩ : ∃ W, Wb1.setCell ⟨bm, 2, none⟩ (.int .i64 1) = W := ⟨_, rfl⟩
      rw [hW4] at hx4 he4 ks4 hb4  ⊢
      clear HX HEM HKS HBW hW4 
      have HX := Lib.hid hx4
      have HEM := Lib.hid he4
      have HKS := Lib.hid ks4
      have HBW := Lib.hid hb4
      clear hx4 he4 ks4 hb4 
      go_upto_region 19 with (first | (refine wpList_load_row rfl 33 _ rfl bx rfl _ _ _ _ HX.out.blk Try.underlying33 rfl (by rw [node_size, HSN.out]) ?_) | (refine wpList_load_row rfl 27 _ rfl bm rfl _ _ _ _ HKS.out Try.underlying27 rfl (by rw [msg_size]; rfl) ?_) | (go_at_call 10; refine (HS2.out _ HX.out.ents HEM.out).mono ?_; rintro e w6 ⟨Ab2, cb2, Bb2, db2, rfl, he6, hs6, ok6, hb6⟩; have HZ : Hid (Blk (w6.alloc (.cells #[.int .i64 0, .int .i64 0, .int .u64 0, .int .i64 0, .slice none 0 0, .int .i64 0, .int .i64 0, .int .u64 0, .int .i64 0, .bool false, .bool false, .bool false, .bool false, .bool false, .bool false, .bool false, .int .u64 0, .int .u64 0, .int .u64 0, .int .u64 0, .int .u64 0, .int .u64 0, .int .u64 0, .int .u64 0, .int .u64 0, .int .u64 0, .int .u64 0, .int .u64 0, .int .u64 0, .int .u64 0] 33)) w6.heap.size (ndC zeroN nilV) 33) := Lib.hid (Blk.new w6 _ _); have HS6 := Lib.hid (size30 ok6 (.slice Ab2 N.log.length cb2))) | (refine wpList_store_row rfl 33 (.tmp 12) (.tmp 94) rfl w6.heap.size _ rfl rfl _ _ HZ.out (by rw [node_size, HS6.out]) (by rw [HS6.out]; rfl) (ndC_one rfl) ?_))
      obtain ⟨hx6, hbL⟩ := NBox.laid he6 ok6
      have hbq := hb6.trans (hbL.mono hb6.size)
      have hbW := HBW.out.trans (hbq.mono HBW.out.size)
      have kHX := HX.out.later hbq
      have kHKS := HKS.out.below hbq
      have kHEM := HEM.out.below hbq
      have HHXb2 : Hid (w6.heap.size ≠ bm) := Lib.hid (fun e => by have h1 := HKS.out.lt; have h2 := hb6.size; omega)
      obtain ⟨b2, hb2⟩ : ∃ x, w6.heap.size = x := ⟨_, rfl⟩
      obtain ⟨Wb2, hWb2⟩ : ∃ W, (w6.alloc (.cells #[.int .i64 0, .int .i64 0, .int .u64 0, .int .i64 0, .slice none 0 0, .int .i64 0, .int .i64 0, .int .u64 0, .int .i64 0, .bool false, .bool false, .bool false, .bool false, .bool false, .bool false, .bool false, .int .u64 0, .int .u64 0, .int .u64 0, .int .u64 0, .int .u64 0, .int .u64 0, .int .u64 0, .int .u64 0, .int .u64 0, .int .u64 0, .int .u64 0, .int .u64 0, .int .u64 0, .int .u64 0] 33)).setRow w6.heap.size (ndC N (.slice Ab2 N.log.length cb2)).toArray = W := ⟨_, rfl⟩
      rw [hWb2] at hx6 hbW kHX kHKS kHEM ⊢
      rw [hb2] at hx6 ⊢
      have HXb2 := Lib.hid hx6
      have HBW := Lib.hid hbW
      rw [hb2] at HHXb2
      have HX := Lib.hid kHX
      have HKS := Lib.hid kHKS
      have HEM := Lib.hid kHEM
      clear hx6 hbW kHX kHKS kHEM hWb2 hb2 hbq hbL he6 hb6 HZ HS6 hs6 ok6
      have q2 := HKS.out.cell 2 _ rfl
      have f2 := HKS.out.free 2
      have q1 := HKS.out.cell 1 _ rfl
      have f1 := HKS.out.free 1
      go_upto_region 21 with fail
      clear q2 f2 q1 f1
      have no0 := fun x => msgC_no x A2 L2 c2
      have kx := HX.out.farM HKS.out (no0 _) HNB.out 2 (.int .i64 0)
      have ke := HEM.out.far HKS.out (no0 _) 2 (.int .i64 0)
      have kHXb2 := HXb2.out.farM HKS.out (no0 _) HHXb2.out 2 (.int .i64 0)
      have ks : Blk (Wb2.setCell ⟨bm, 2, none⟩ (.int .i64 0)) bm (msgC m1 (.slice A2 L2 c2)) 27 := by have h := HKS.out.set 2 (.int .i64 0); rw [show msgC m1 (.slice A2 L2 c2) = (msgC m2 (.slice A2 L2 c2)).set 2 (.int .i64 0) by rw [HM1.out.1]; simp only [msgC, List.set_cons_succ, List.set_cons_zero, HM1.out.2.2.2.1]]; exact h
      have kb := HBW.out.setOne bm 2 (.int .i64 0) HWM.out
      clear HX HEM HKS HBW
      clear HXb2
      have HX := Lib.hid kx
      have HEM := Lib.hid ke
      have HKS := Lib.hid ks
      have HBW := Lib.hid kb
      have HXb2 := Lib.hid kHXb2
      clear kx ke ks kb kHXb2
      have kx := HX.out.farM HKS.out (no0 _) HNB.out 1 (.int .i64 (K3 : Int))
      have ke := HEM.out.far HKS.out (no0 _) 1 (.int .i64 (K3 : Int))
      have kHXb2 := HXb2.out.farM HKS.out (no0 _) HHXb2.out 1 (.int .i64 (K3 : Int))
      have ks : Blk ((Wb2.setCell ⟨bm, 2, none⟩ (.int .i64 0)).setCell ⟨bm, 1, none⟩ (.int .i64 (K3 : Int))) bm (msgC m3 (.slice A2 L2 c2)) 27 := by have h := HKS.out.set 1 (.int .i64 (K3 : Int)); rw [HM1.out.2.1]; exact h
      have kb := HBW.out.setOne bm 1 (.int .i64 (K3 : Int)) HWM.out
      clear HX HEM HKS HBW
      clear HXb2
      have HX := Lib.hid kx
      have HEM := Lib.hid ke
      have HKS := Lib.hid ks
      have HBW := Lib.hid kb
      have HXb2 := Lib.hid kHXb2
      clear kx ke ks kb kHXb2
      clear no0
      have hx4 := HX.out
      have he4 := HEM.out
      have ks4 := HKS.out
      have hb4 := HBW.out
      have kHXb2 := HXb2.out
      obtain ⟨W6, hW4⟩ : ∃ W, (Wb2.setCell ⟨bm, 2, none⟩ (.int .i64 0)).setCell ⟨bm, 1, none⟩ (.int .i64 (K3 : Int)) = W := ⟨_, rfl⟩
      rw [hW4] at hx4 he4 ks4 hb4 kHXb2 ⊢
      clear HX HEM HKS HBW hW4 HXb2
      have HX := Lib.hid hx4
      have HEM := Lib.hid he4
      have HKS := Lib.hid ks4
      have HBW := Lib.hid hb4
      have HXb2 := Lib.hid kHXb2
      clear hx4 he4 ks4 hb4 kHXb2
      go_upto_region 22 with (first | (refine wpList_load_row rfl 33 _ rfl bx rfl _ _ _ _ HX.out.blk Try.underlying33 rfl (by rw [node_size, HSN.out]) ?_) | (refine wpList_load_row rfl 27 _ rfl bm rfl _ _ _ _ HKS.out Try.underlying27 rfl (by rw [msg_size]; rfl) ?_) | (go_at_call 10; refine (HS3.out _ HX.out.ents HEM.out).mono ?_; rintro e w6 ⟨Ab3, cb3, Bb3, db3, rfl, he6, hs6, ok6, hb6⟩; have HZ : Hid (Blk (w6.alloc (.cells #[.int .i64 0, .int .i64 0, .int .u64 0, .int .i64 0, .slice none 0 0, .int .i64 0, .int .i64 0, .int .u64 0, .int .i64 0, .bool false, .bool false, .bool false, .bool false, .bool false, .bool false, .bool false, .int .u64 0, .int .u64 0, .int .u64 0, .int .u64 0, .int .u64 0, .int .u64 0, .int .u64 0, .int .u64 0, .int .u64 0, .int .u64 0, .int .u64 0, .int .u64 0, .int .u64 0, .int .u64 0] 33)) w6.heap.size (ndC zeroN nilV) 33) := Lib.hid (Blk.new w6 _ _); have HS6 := Lib.hid (size30 ok6 (.slice Ab3 N.log.length cb3))) | (refine wpList_store_row rfl 33 (.tmp 14) (.tmp 105) rfl w6.heap.size _ rfl rfl _ _ HZ.out (by rw [node_size, HS6.out]) (by rw [HS6.out]; rfl) (ndC_one rfl) ?_))
      obtain ⟨hx6, hbL⟩ := NBox.laid he6 ok6
      have hbq := hb6.trans (hbL.mono hb6.size)
      have hbW := HBW.out.trans (hbq.mono HBW.out.size)
      have kHX := HX.out.later hbq
      have kHKS := HKS.out.below hbq
      have kHEM := HEM.out.below hbq
      have kHXb2 := HXb2.out.later hbq
      have HHXb3 : Hid (w6.heap.size ≠ bm) := Lib.hid (fun e => by have h1 := HKS.out.lt; have h2 := hb6.size; omega)
      obtain ⟨b3, hb3⟩ : ∃ x, w6.heap.size = x := ⟨_, rfl⟩
      obtain ⟨Wb3, hWb3⟩ : ∃ W, (w6.alloc (.cells #[.int .i64 0, .int .i64 0, .int .u64 0, .int .i64 0, .slice none 0 0, .int .i64 0, .int .i64 0, .int .u64 0, .int .i64 0, .bool false, .bool false, .bool false, .bool false, .bool false, .bool false, .bool false, .int .u64 0, .int .u64 0, .int .u64 0, .int .u64 0, .int .u64 0, .int .u64 0, .int .u64 0, .int .u64 0, .int .u64 0, .int .u64 0, .int .u64 0, .int .u64 0, .int .u64 0, .int .u64 0] 33)).setRow w6.heap.size (ndC N (.slice Ab3 N.log.length cb3)).toArray = W := ⟨_, rfl⟩
      rw [hWb3] at hx6 hbW kHX kHKS kHEM kHXb2 ⊢
      rw [hb3] at hx6 ⊢
      have HXb3 := Lib.hid hx6
      have HBW := Lib.hid hbW
      rw [hb3] at HHXb3
      have HX := Lib.hid kHX
      have HKS := Lib.hid kHKS
      have HEM := Lib.hid kHEM
      have HXb2 := Lib.hid kHXb2
      clear hx6 hbW kHX kHKS kHEM kHXb2 hWb3 hb3 hbq hbL he6 hb6 HZ HS6 hs6 ok6
      have q1 := HKS.out.cell 1 _ rfl
      have f1 := HKS.out.free 1
      go_upto_region 23 with fail
      clear q1 f1
      have no0 := fun x => msgC_no x A2 L2 c2
      have kx := HX.out.farM HKS.out (no0 _) HNB.out 1 (.int .i64 0)
      have ke := HEM.out.far HKS.out (no0 _) 1 (.int .i64 0)
      have kHXb2 := HXb2.out.farM HKS.out (no0 _) HHXb2.out 1 (.int .i64 0)
      have kHXb3 := HXb3.out.farM HKS.out (no0 _) HHXb3.out 1 (.int .i64 0)
      have ks : Blk (Wb3.setCell ⟨bm, 1, none⟩ (.int .i64 0)) bm (msgC m4 (.slice A2 L2 c2)) 27 := by have h := HKS.out.set 1 (.int .i64 0); rw [HM1.out.2.2.1]; rw [HM1.out.2.1] at h; exact h
      have kb := HBW.out.setOne bm 1 (.int .i64 0) HWM.out
      clear HX HEM HKS HBW
      clear HXb2 HXb3
      have HX := Lib.hid kx
      have HEM := Lib.hid ke
      have HKS := Lib.hid ks
      have HBW := Lib.hid kb
      have HXb2 := Lib.hid kHXb2
      have HXb3 := Lib.hid kHXb3
      clear kx ke ks kb kHXb2 kHXb3
      clear no0
      have hx4 := HX.out
      have he4 := HEM.out
      have ks4 := HKS.out
      have hb4 := HBW.out
      have kHXb2 := HXb2.out
      have kHXb3 := HXb3.out
      obtain ⟨W7, hW4⟩ : ∃ W, Wb3.setCell ⟨bm, 1, none⟩ (.int .i64 0) = W := ⟨_, rfl⟩
      rw [hW4] at hx4 he4 ks4 hb4 kHXb2 kHXb3 ⊢
      clear HX HEM HKS HBW hW4 HXb2 HXb3
      have HX := Lib.hid hx4
      have HEM := Lib.hid he4
      have HKS := Lib.hid ks4
      have HBW := Lib.hid hb4
      have HXb2 := Lib.hid kHXb2
      have HXb3 := Lib.hid kHXb3
      clear hx4 he4 ks4 hb4 kHXb2 kHXb3
      go_upto_region 24 with (first | (refine wpList_load_row rfl 33 _ rfl bx rfl _ _ _ _ HX.out.blk Try.underlying33 rfl (by rw [node_size, HSN.out]) ?_) | (refine wpList_load_row rfl 27 _ rfl bm rfl _ _ _ _ HKS.out Try.underlying27 rfl (by rw [msg_size]; rfl) ?_) | (go_at_call 10; refine (HS4.out _ HX.out.ents HEM.out).mono ?_; rintro e w6 ⟨Ab4, cb4, Bb4, db4, rfl, he6, hs6, ok6, hb6⟩; have HZ : Hid (Blk (w6.alloc (.cells #[.int .i64 0, .int .i64 0, .int .u64 0, .int .i64 0, .slice none 0 0, .int .i64 0, .int .i64 0, .int .u64 0, .int .i64 0, .bool false, .bool false, .bool false, .bool false, .bool false, .bool false, .bool false, .int .u64 0, .int .u64 0, .int .u64 0, .int .u64 0, .int .u64 0, .int .u64 0, .int .u64 0, .int .u64 0, .int .u64 0, .int .u64 0, .int .u64 0, .int .u64 0, .int .u64 0, .int .u64 0] 33)) w6.heap.size (ndC zeroN nilV) 33) := Lib.hid (Blk.new w6 _ _); have HS6 := Lib.hid (size30 ok6 (.slice Ab4 N.log.length cb4))) | (refine wpList_store_row rfl 33 (.tmp 16) (.tmp 112) rfl w6.heap.size _ rfl rfl _ _ HZ.out (by rw [node_size, HS6.out]) (by rw [HS6.out]; rfl) (ndC_one rfl) ?_))
      obtain ⟨hx6, hbL⟩ := NBox.laid he6 ok6
      have hbq := hb6.trans (hbL.mono hb6.size)
      have hbW := HBW.out.trans (hbq.mono HBW.out.size)
      have kHX := HX.out.later hbq
      have kHKS := HKS.out.below hbq
      have kHEM := HEM.out.below hbq
      have kHXb2 := HXb2.out.later hbq
      have kHXb3 := HXb3.out.later hbq
      have HHXb4 : Hid (w6.heap.size ≠ bm) := Lib.hid (fun e => by have h1 := HKS.out.lt; have h2 := hb6.size; omega)
      obtain ⟨b4, hb4⟩ : ∃ x, w6.heap.size = x := ⟨_, rfl⟩
      obtain ⟨Wb4, hWb4⟩ : ∃ W, (w6.alloc (.cells #[.int .i64 0, .int .i64 0, .int .u64 0, .int .i64 0, .slice none 0 0, .int .i64 0, .int .i64 0, .int .u64 0, .int .i64 0, .bool false, .bool false, .bool false, .bool false, .bool false, .bool false, .bool false, .int .u64 0, .int .u64 0, .int .u64 0, .int .u64 0, .int .u64 0, .int .u64 0, .int .u64 0, .int .u64 0, .int .u64 0, .int .u64 0, .int .u64 0, .int .u64 0, .int .u64 0, .int .u64 0] 33)).setRow w6.heap.size (ndC N (.slice Ab4 N.log.length cb4)).toArray = W := ⟨_, rfl⟩
      rw [hWb4] at hx6 hbW kHX kHKS kHEM kHXb2 kHXb3 ⊢
      rw [hb4] at hx6 ⊢
      have HXb4 := Lib.hid hx6
      have HBW := Lib.hid hbW
      rw [hb4] at HHXb4
      have HX := Lib.hid kHX
      have HKS := Lib.hid kHKS
      have HEM := Lib.hid kHEM
      have HXb2 := Lib.hid kHXb2
      have HXb3 := Lib.hid kHXb3
      clear hx6 hbW kHX kHKS kHEM kHXb2 kHXb3 hWb4 hb4 hbq hbL he6 hb6 HZ HS6 hs6 ok6
      clear HS1 HS2 HS3 HS4 HKS HEM HM1 HSM HSN HR0 HTT HCC HTM HQ
      have MK : Hid (∀ w', Below Wb4.heap.size Wb4 w' → (w'.rangeAt bx 0 (ndC N (.slice A3 N.log.length c3)) ∧ w'.rangeAt b2 0 (ndC N (.slice Ab2 N.log.length cb2)) ∧ w'.rangeAt b3 0 (ndC N (.slice Ab3 N.log.length cb3)) ∧ w'.rangeAt b4 0 (ndC N (.slice Ab4 N.log.length cb4)))) := Lib.hid (fun w' h => ⟨blk_range (HX.out.later h).blk, blk_range (HXb2.out.later h).blk, blk_range (HXb3.out.later h).blk, blk_range (HXb4.out.later h).blk⟩)
      have hW : Below Wb4.heap.size Wb4 Wb4.drew := below_drewN (Below.refl _ Wb4) 1
      have hu33 := Try.underlying33
      have hs0 : (Try.prog.info? 33).map (·.size) = some (ndC N (.slice A3 N.log.length c3)).length := by rw [ndC_len HOKN.out]; exact node_size
      have hs1 : (Try.prog.info? 33).map (·.size) = some (ndC N (.slice Ab2 N.log.length cb2)).length := by rw [ndC_len HOKN.out]; exact node_size
      have hs2 : (Try.prog.info? 33).map (·.size) = some (ndC N (.slice Ab3 N.log.length cb3)).length := by rw [ndC_len HOKN.out]; exact node_size
      have hs3 : (Try.prog.info? 33).map (·.size) = some (ndC N (.slice Ab4 N.log.length cb4)).length := by rw [ndC_len HOKN.out]; exact node_size
      refine wp_region_held_drew (S := fun w' => w'.rangeAt bx 0 (ndC N (.slice A3 N.log.length c3)) ∧ w'.rangeAt b2 0 (ndC N (.slice Ab2 N.log.length cb2)) ∧ w'.rangeAt b3 0 (ndC N (.slice Ab3 N.log.length cb3)) ∧ w'.rangeAt b4 0 (ndC N (.slice Ab4 N.log.length cb4))) (by kernel_rfl) (MK.out _ hW) (fun hHeld => ?_)
      refine wpAnyH_take (i := 0) (opsAt rfl) (by kernel_rfl) (by kernel_rfl) (by kernel_rfl) (fun _ _ _ h => h) (yieldsIf_load_mid (by rfl) _ _ rfl _ _ rfl _ _ (fun _ h => h.2.1) hu33 rfl hs1) (by assumption) ?_; (try simp only [Act.put, List.setIfInBounds_toArray, List.set_cons_zero, List.set_cons_succ])
      refine wpAnyH_take (i := 2) (opsAt rfl) (by kernel_rfl) (by kernel_rfl) (by kernel_rfl) (fun _ _ _ h => h) (yieldsIf_load_mid (by rfl) _ _ rfl _ _ rfl _ _ (fun _ h => h.1) hu33 rfl hs0) (by assumption) ?_; (try simp only [Act.put, List.setIfInBounds_toArray, List.set_cons_zero, List.set_cons_succ])
      refine wpAnyH_ready (rs := [1]) (by kernel_rfl) (by simp) ?_; refine AllReadyH.cons (opsAt rfl) (fun K hK => ?_) AllReadyH.nil; (try rw [if_pos (by rfl)]); go_simp; (go_at_call 9; (first | (with_reducible refine (HITN.out _ _ _ (HX.out.ents.below hW)).mono ?_) | (with_reducible refine (HITN.out _ _ _ (HXb2.out.ents.below hW)).mono ?_) | (with_reducible refine (HITN.out _ _ _ (HXb3.out.ents.below hW)).mono ?_) | (with_reducible refine (HITN.out _ _ _ (HXb4.out.ents.below hW)).mono ?_)); rintro e w6 ⟨A6, c6, rfl, hE6, hb6⟩; (try have hPrev := hNow.below hb6); have hNow := hE6; have hW := hW.trans (hb6.mono hW.size)); dsimp only; refine hK.out _ _ (MK.out _ hW) (fun hHeld => ?_); clear hK K; (try simp only [Act.put, List.setIfInBounds_toArray, List.set_cons_zero, List.set_cons_succ])
      refine wpAnyH_ready (rs := [3]) (by kernel_rfl) (by simp) ?_; refine AllReadyH.cons (opsAt rfl) (fun K hK => ?_) AllReadyH.nil; (try rw [if_pos (by rfl)]); go_simp; (go_at_call 9; (first | (with_reducible refine (HITN.out _ _ _ (HX.out.ents.below hW)).mono ?_) | (with_reducible refine (HITN.out _ _ _ (HXb2.out.ents.below hW)).mono ?_) | (with_reducible refine (HITN.out _ _ _ (HXb3.out.ents.below hW)).mono ?_) | (with_reducible refine (HITN.out _ _ _ (HXb4.out.ents.below hW)).mono ?_)); rintro e w6 ⟨A6, c6, rfl, hE6, hb6⟩; (try have hPrev := hNow.below hb6); have hNow := hE6; have hW := hW.trans (hb6.mono hW.size)); dsimp only; refine hK.out _ _ (MK.out _ hW) (fun hHeld => ?_); clear hK K; (try simp only [Act.put, List.setIfInBounds_toArray, List.set_cons_zero, List.set_cons_succ])
      refine wpAnyH_ready (rs := [4]) (by kernel_rfl) (by simp) ?_; refine AllReadyH.cons (opsAt rfl) (fun K hK => ?_) AllReadyH.nil; (try rw [if_pos (by rfl)]); go_simp; (go_at_call 11; with_reducible refine (HSMN.out _ _ _ _ _ hPrev hNow).mono ?_; rintro e w6 ⟨rfl, hb6⟩; have hW := hW.trans (hb6.mono hW.size)); dsimp only; refine hK.out _ _ (MK.out _ hW) (fun hHeld => ?_); clear hK K; (try simp only [Act.put, List.setIfInBounds_toArray, List.set_cons_zero, List.set_cons_succ])
      (refine wpAnyH_take (i := 5) (v := ?_) (opsAt rfl) (by kernel_rfl) (by kernel_rfl) (by kernel_rfl) (fun _ _ _ h => h) (Or.inl ⟨by rfl, ?_⟩) (by assumption) ?_; rotate_left; focus (intro w hSw; (try dsimp only at hSw); go_simp; (try with_reducible rfl); done)); (try simp only [Act.put, List.setIfInBounds_toArray, List.set_cons_zero, List.set_cons_succ])
      refine wpAnyH_take (i := 6) (opsAt rfl) (by kernel_rfl) (by kernel_rfl) (by kernel_rfl) (fun _ _ _ h => h) (yieldsIf_load_mid (by rfl) _ _ rfl _ _ rfl _ _ (fun _ h => h.2.2.1) hu33 rfl hs2) (by assumption) ?_; (try simp only [Act.put, List.setIfInBounds_toArray, List.set_cons_zero, List.set_cons_succ])
      refine wpAnyH_take (i := 8) (opsAt rfl) (by kernel_rfl) (by kernel_rfl) (by kernel_rfl) (fun _ _ _ h => h) (yieldsIf_load_mid (by rfl) _ _ rfl _ _ rfl _ _ (fun _ h => h.1) hu33 rfl hs0) (by assumption) ?_; (try simp only [Act.put, List.setIfInBounds_toArray, List.set_cons_zero, List.set_cons_succ])
      refine wpAnyH_ready (rs := [7]) (by kernel_rfl) (by simp) ?_; refine AllReadyH.cons (opsAt rfl) (fun K hK => ?_) AllReadyH.nil; (try rw [if_pos (by rfl)]); go_simp; (go_at_call 9; (first | (with_reducible refine (HITN.out _ _ _ (HX.out.ents.below hW)).mono ?_) | (with_reducible refine (HITN.out _ _ _ (HXb2.out.ents.below hW)).mono ?_) | (with_reducible refine (HITN.out _ _ _ (HXb3.out.ents.below hW)).mono ?_) | (with_reducible refine (HITN.out _ _ _ (HXb4.out.ents.below hW)).mono ?_)); rintro e w6 ⟨A6, c6, rfl, hE6, hb6⟩; (try have hPrev := hNow.below hb6); have hNow := hE6; have hW := hW.trans (hb6.mono hW.size)); dsimp only; refine hK.out _ _ (MK.out _ hW) (fun hHeld => ?_); clear hK K; (try simp only [Act.put, List.setIfInBounds_toArray, List.set_cons_zero, List.set_cons_succ])
      refine wpAnyH_ready (rs := [9]) (by kernel_rfl) (by simp) ?_; refine AllReadyH.cons (opsAt rfl) (fun K hK => ?_) AllReadyH.nil; (try rw [if_pos (by rfl)]); go_simp; (go_at_call 9; (first | (with_reducible refine (HITN.out _ _ _ (HX.out.ents.below hW)).mono ?_) | (with_reducible refine (HITN.out _ _ _ (HXb2.out.ents.below hW)).mono ?_) | (with_reducible refine (HITN.out _ _ _ (HXb3.out.ents.below hW)).mono ?_) | (with_reducible refine (HITN.out _ _ _ (HXb4.out.ents.below hW)).mono ?_)); rintro e w6 ⟨A6, c6, rfl, hE6, hb6⟩; (try have hPrev := hNow.below hb6); have hNow := hE6; have hW := hW.trans (hb6.mono hW.size)); dsimp only; refine hK.out _ _ (MK.out _ hW) (fun hHeld => ?_); clear hK K; (try simp only [Act.put, List.setIfInBounds_toArray, List.set_cons_zero, List.set_cons_succ])
      refine wpAnyH_ready (rs := [10]) (by kernel_rfl) (by simp) ?_; refine AllReadyH.cons (opsAt rfl) (fun K hK => ?_) AllReadyH.nil; (try rw [if_pos (by rfl)]); go_simp; (go_at_call 11; with_reducible refine (HSMN.out _ _ _ _ _ hPrev hNow).mono ?_; rintro e w6 ⟨rfl, hb6⟩; have hW := hW.trans (hb6.mono hW.size)); dsimp only; refine hK.out _ _ (MK.out _ hW) (fun hHeld => ?_); clear hK K; (try simp only [Act.put, List.setIfInBounds_toArray, List.set_cons_zero, List.set_cons_succ])
      (refine wpAnyH_take (i := 11) (v := ?_) (opsAt rfl) (by kernel_rfl) (by kernel_rfl) (by kernel_rfl) (fun _ _ _ h => h) (Or.inl ⟨by rfl, ?_⟩) (by assumption) ?_; rotate_left; focus (intro w hSw; (try dsimp only at hSw); go_simp; (try with_reducible rfl); done)); (try simp only [Act.put, List.setIfInBounds_toArray, List.set_cons_zero, List.set_cons_succ])
      (refine wpAnyH_take (i := 12) (v := ?_) (opsAt rfl) (by kernel_rfl) (by kernel_rfl) (by kernel_rfl) (fun _ _ _ h => h) (Or.inl ⟨by rfl, ?_⟩) (by assumption) ?_; rotate_left; focus (intro w hSw; (try dsimp only at hSw); go_simp; (try with_reducible rfl); done)); (try simp only [Act.put, List.setIfInBounds_toArray, List.set_cons_zero, List.set_cons_succ])
      refine wpAnyH_take (i := 13) (opsAt rfl) (by kernel_rfl) (by kernel_rfl) (by kernel_rfl) (fun _ _ _ h => h) (yieldsIf_load_mid (by rfl) _ _ rfl _ _ rfl _ _ (fun _ h => h.2.2.2) hu33 rfl hs3) (by assumption) ?_; (try simp only [Act.put, List.setIfInBounds_toArray, List.set_cons_zero, List.set_cons_succ])
      refine wpAnyH_take (i := 15) (opsAt rfl) (by kernel_rfl) (by kernel_rfl) (by kernel_rfl) (fun _ _ _ h => h) (yieldsIf_load_mid (by rfl) _ _ rfl _ _ rfl _ _ (fun _ h => h.1) hu33 rfl hs0) (by assumption) ?_; (try simp only [Act.put, List.setIfInBounds_toArray, List.set_cons_zero, List.set_cons_succ])
      refine wpAnyH_ready (rs := [14]) (by kernel_rfl) (by simp) ?_; refine AllReadyH.cons (opsAt rfl) (fun K hK => ?_) AllReadyH.nil; (try rw [if_pos (by rfl)]); go_simp; (go_at_call 9; (first | (with_reducible refine (HITN.out _ _ _ (HX.out.ents.below hW)).mono ?_) | (with_reducible refine (HITN.out _ _ _ (HXb2.out.ents.below hW)).mono ?_) | (with_reducible refine (HITN.out _ _ _ (HXb3.out.ents.below hW)).mono ?_) | (with_reducible refine (HITN.out _ _ _ (HXb4.out.ents.below hW)).mono ?_)); rintro e w6 ⟨A6, c6, rfl, hE6, hb6⟩; (try have hPrev := hNow.below hb6); have hNow := hE6; have hW := hW.trans (hb6.mono hW.size)); dsimp only; refine hK.out _ _ (MK.out _ hW) (fun hHeld => ?_); clear hK K; (try simp only [Act.put, List.setIfInBounds_toArray, List.set_cons_zero, List.set_cons_succ])
      refine wpAnyH_ready (rs := [16]) (by kernel_rfl) (by simp) ?_; refine AllReadyH.cons (opsAt rfl) (fun K hK => ?_) AllReadyH.nil; (try rw [if_pos (by rfl)]); go_simp; (go_at_call 9; (first | (with_reducible refine (HITN.out _ _ _ (HX.out.ents.below hW)).mono ?_) | (with_reducible refine (HITN.out _ _ _ (HXb2.out.ents.below hW)).mono ?_) | (with_reducible refine (HITN.out _ _ _ (HXb3.out.ents.below hW)).mono ?_) | (with_reducible refine (HITN.out _ _ _ (HXb4.out.ents.below hW)).mono ?_)); rintro e w6 ⟨A6, c6, rfl, hE6, hb6⟩; (try have hPrev := hNow.below hb6); have hNow := hE6; have hW := hW.trans (hb6.mono hW.size)); dsimp only; refine hK.out _ _ (MK.out _ hW) (fun hHeld => ?_); clear hK K; (try simp only [Act.put, List.setIfInBounds_toArray, List.set_cons_zero, List.set_cons_succ])
      refine wpAnyH_ready (rs := [17]) (by kernel_rfl) (by simp) ?_; refine AllReadyH.cons (opsAt rfl) (fun K hK => ?_) AllReadyH.nil; (try rw [if_pos (by rfl)]); go_simp; (go_at_call 11; with_reducible refine (HSMN.out _ _ _ _ _ hPrev hNow).mono ?_; rintro e w6 ⟨rfl, hb6⟩; have hW := hW.trans (hb6.mono hW.size)); dsimp only; refine hK.out _ _ (MK.out _ hW) (fun hHeld => ?_); clear hK K; (try simp only [Act.put, List.setIfInBounds_toArray, List.set_cons_zero, List.set_cons_succ])
      (refine wpAnyH_take (i := 18) (v := ?_) (opsAt rfl) (by kernel_rfl) (by kernel_rfl) (by kernel_rfl) (fun _ _ _ h => h) (Or.inl ⟨by rfl, ?_⟩) (by assumption) ?_; rotate_left; focus (intro w hSw; (try dsimp only at hSw); go_simp; (try with_reducible rfl); done)); (try simp only [Act.put, List.setIfInBounds_toArray, List.set_cons_zero, List.set_cons_succ])
      (refine wpAnyH_take (i := 19) (v := ?_) (opsAt rfl) (by kernel_rfl) (by kernel_rfl) (by kernel_rfl) (fun _ _ _ h => h) (Or.inl ⟨by rfl, ?_⟩) (by assumption) ?_; rotate_left; focus (intro w hSw; (try dsimp only at hSw); go_simp; (try with_reducible rfl); done)); (try simp only [Act.put, List.setIfInBounds_toArray, List.set_cons_zero, List.set_cons_succ])
      (refine wpAnyH_take (i := 20) (v := ?_) (opsAt rfl) (by kernel_rfl) (by kernel_rfl) (by kernel_rfl) (fun _ _ _ h => h) (Or.inl ⟨by rfl, ?_⟩) (by assumption) ?_; rotate_left; focus (intro w hSw; (try dsimp only at hSw); go_simp; (try with_reducible rfl); done)); (try simp only [Act.put, List.setIfInBounds_toArray, List.set_cons_zero, List.set_cons_succ])
      (refine wpAnyH_take (i := 21) (v := ?_) (opsAt rfl) (by kernel_rfl) (by kernel_rfl) (by kernel_rfl) (fun _ _ _ h => h) (Or.inl ⟨by rfl, ?_⟩) (by assumption) ?_; rotate_left; focus (intro w hSw; (try dsimp only at hSw); go_simp; (try with_reducible rfl); done)); (try simp only [Act.put, List.setIfInBounds_toArray, List.set_cons_zero, List.set_cons_succ])
      (refine wpAnyH_take (i := 22) (v := ?_) (opsAt rfl) (by kernel_rfl) (by kernel_rfl) (by kernel_rfl) (fun _ _ _ h => h) (Or.inl ⟨by rfl, ?_⟩) (by assumption) ?_; rotate_left; focus (intro w hSw; (try dsimp only at hSw); go_simp; (try with_reducible rfl); done)); (try simp only [Act.put, List.setIfInBounds_toArray, List.set_cons_zero, List.set_cons_succ])
      (refine wpAnyH_take (i := 23) (v := ?_) (opsAt rfl) (by kernel_rfl) (by kernel_rfl) (by kernel_rfl) (fun _ _ _ h => h) (Or.inl ⟨by rfl, ?_⟩) (by assumption) ?_; rotate_left; focus (intro w hSw; (try dsimp only at hSw); go_simp; (try with_reducible rfl); done)); (try simp only [Act.put, List.setIfInBounds_toArray, List.set_cons_zero, List.set_cons_succ])
      (refine wpAnyH_take (i := 24) (v := ?_) (opsAt rfl) (by kernel_rfl) (by kernel_rfl) (by kernel_rfl) (fun _ _ _ h => h) (Or.inl ⟨by rfl, ?_⟩) (by assumption) ?_; rotate_left; focus (intro w hSw; (try dsimp only at hSw); go_simp; (try with_reducible rfl); done)); (try simp only [Act.put, List.setIfInBounds_toArray, List.set_cons_zero, List.set_cons_succ])
      (refine wpAnyH_take (i := 25) (v := ?_) (opsAt rfl) (by kernel_rfl) (by kernel_rfl) (by kernel_rfl) (fun _ _ _ h => h) (Or.inl ⟨by rfl, ?_⟩) (by assumption) ?_; rotate_left; focus (intro w hSw; (try dsimp only at hSw); go_simp; (try with_reducible rfl); done)); (try simp only [Act.put, List.setIfInBounds_toArray, List.set_cons_zero, List.set_cons_succ])
      (refine wpAnyH_take (i := 26) (v := ?_) (opsAt rfl) (by kernel_rfl) (by kernel_rfl) (by kernel_rfl) (fun _ _ _ h => h) (Or.inl ⟨by rfl, ?_⟩) (by assumption) ?_; rotate_left; focus (intro w hSw; (try dsimp only at hSw); go_simp; (try with_reducible rfl); done)); (try simp only [Act.put, List.setIfInBounds_toArray, List.set_cons_zero, List.set_cons_succ])
      (refine wpAnyH_take (i := 27) (v := ?_) (opsAt rfl) (by kernel_rfl) (by kernel_rfl) (by kernel_rfl) (fun _ _ _ h => h) (Or.inl ⟨by rfl, ?_⟩) (by assumption) ?_; rotate_left; focus (intro w hSw; (try dsimp only at hSw); go_simp; (try with_reducible rfl); done)); (try simp only [Act.put, List.setIfInBounds_toArray, List.set_cons_zero, List.set_cons_succ])
      (refine wpAnyH_take (i := 28) (v := ?_) (opsAt rfl) (by kernel_rfl) (by kernel_rfl) (by kernel_rfl) (fun _ _ _ h => h) (Or.inl ⟨by rfl, ?_⟩) (by assumption) ?_; rotate_left; focus (intro w hSw; (try dsimp only at hSw); go_simp; (try with_reducible rfl); done)); (try simp only [Act.put, List.setIfInBounds_toArray, List.set_cons_zero, List.set_cons_succ])
      (refine wpAnyH_take (i := 29) (v := ?_) (opsAt rfl) (by kernel_rfl) (by kernel_rfl) (by kernel_rfl) (fun _ _ _ h => h) (Or.inl ⟨by rfl, ?_⟩) (by assumption) ?_; rotate_left; focus (intro w hSw; (try dsimp only at hSw); go_simp; (try with_reducible rfl); done)); (try simp only [Act.put, List.setIfInBounds_toArray, List.set_cons_zero, List.set_cons_succ])
      (refine wpAnyH_take (i := 30) (v := ?_) (opsAt rfl) (by kernel_rfl) (by kernel_rfl) (by kernel_rfl) (fun _ _ _ h => h) (Or.inl ⟨by rfl, ?_⟩) (by assumption) ?_; rotate_left; focus (intro w hSw; (try dsimp only at hSw); go_simp; (try with_reducible rfl); done)); (try simp only [Act.put, List.setIfInBounds_toArray, List.set_cons_zero, List.set_cons_succ])
      refine wpAnyH_done (by kernel_rfl) ?_ _
      go_wp2_with fail; go_ret; exact ⟨rfl, HBW.out.trans (hW.mono HBW.out.size)⟩
end Go.Proofs.Ytkoidphhlfjlhaa
