/- RaftlogNewer walked: whatever comes in, it returns true. -/
import Derived.Test.YtgaamknkigdoeaaRlShown
namespace Go.Proofs.Ytgaamknkigdoeaa
open Go Go.RowKit

namespace rl
theorem newer_tot (a b : List Ent) : newer a (lastTerm b) b.length = true ∨ newer b (lastTerm a) a.length = true := by
  unfold newer
  obtain ⟨x, hx⟩ : ∃ x, lastTerm a = x := ⟨_, rfl⟩
  obtain ⟨y, hy⟩ : ∃ x, lastTerm b = x := ⟨_, rfl⟩
  rw [hx, hy]
  simp only [Bool.or_eq_true, Bool.and_eq_true, decide_eq_true_eq]
  omega
theorem newer_self (a : List Ent) : newer a (lastTerm a) a.length = true := by
  unfold newer
  simp
theorem newer_both (a b : List Ent) : ((newer a (lastTerm b) b.length) && (newer b (lastTerm a) a.length)) = ((((a.length : Nat) : Int) == ((b.length : Nat) : Int)) && (((lastTerm a : Nat) : Int) == ((lastTerm b : Nat) : Int))) := by
  unfold newer
  obtain ⟨x, hx⟩ : ∃ x, lastTerm a = x := ⟨_, rfl⟩
  obtain ⟨y, hy⟩ : ∃ x, lastTerm b = x := ⟨_, rfl⟩
  rw [hx, hy, Bool.eq_iff_iff]
  simp only [Bool.or_eq_true, Bool.and_eq_true, decide_eq_true_eq, beq_iff_eq]
  omega
end rl
theorem ok_bounds {ls : List rl.Ent} (h : okEnts ls = true) : ls.length ≤ 60 ∧ ∀ t ∈ ls, t.2.length ≤ 200 := by
  unfold okEnts at h
  simpa using h
theorem below_box2 (w : World) (a b c a' b' c' : Value) (t : TypeId) : Below w.heap.size w ((w.alloc (.cells #[a, b, c] t)).alloc (.cells #[a', b', c'] t)) ∧ Blk ((w.alloc (.cells #[a, b, c] t)).alloc (.cells #[a', b', c'] t)) w.heap.size [a, b, c] t ∧ Blk ((w.alloc (.cells #[a, b, c] t)).alloc (.cells #[a', b', c'] t)) (w.heap.size + 1) [a', b', c'] t := by
  refine ⟨below_two w [a, b, c] [a', b', c'] t t, (Blk.new w [a, b, c] t).alloc _, ?_⟩
  have := Blk.new (w.alloc (.cells #[a, b, c] t)) [a', b', c'] t
  simpa only [World.size_alloc] using this

set_option maxHeartbeats 2000000 in
theorem rnewer_law (T T' : Nat) (V V' : Int) (v v' : Value) (la lb : List rl.Ent) (w : World) (hv : Ents w v la) (hf : Fine la) (hv' : Ents w v' lb) (hf' : Fine lb) :
    Calls Try.prog 6 #[stV T V v, stV T' V' v'] w fun e w' => e = .returned (.bool true) ∧ Below w.heap.size w w' := by
  obtain ⟨A, c, hu⟩ := hv.form
  obtain ⟨B, d, hu'⟩ := hv'.form
  obtain ⟨n, hn⟩ : ∃ n, la.length = n := ⟨_, rfl⟩
  obtain ⟨m, hm⟩ : ∃ m, lb.length = m := ⟨_, rfl⟩
  rw [hn] at hu
  rw [hm] at hu'
  subst hu hu'
  have Hn := Lib.hid hn
  have Hm := Lib.hid hm
  clear hn hm
  obtain ⟨hb, b1, b2⟩ := below_box2 w (.int .u64 (T : Int)) (.int .i64 V) (.slice A n c) (.int .u64 (T' : Int)) (.int .i64 V') (.slice B m d) 25
  obtain ⟨X, hX⟩ : ∃ X, ((w.alloc (.cells #[.int .u64 (T : Int), .int .i64 V, .slice A n c] 25)).alloc (.cells #[.int .u64 (T' : Int), .int .i64 V', .slice B m d] 25)) = X := ⟨_, rfl⟩
  rw [hX] at hb b1 b2
  have e1 := hv.below hb
  have e2 := hv'.below hb
  have c1 := bounded_any _ la X e1 hf
  have c2 := bounded_any _ lb X e2 hf'
  have s0 := b1.cell 0 _ rfl
  have s1 := b1.cell 1 _ rfl
  have s2 := b1.cell 2 _ rfl
  have t0 := b2.cell 0 _ rfl
  have t1 := b2.cell 1 _ rfl
  have t2 := b2.cell 2 _ rfl
  have HX := Lib.hid hX
  have HB := Lib.hid hb
  have HB1 := Lib.hid b1
  have HB2 := Lib.hid b2
  have HE1 := Lib.hid e1
  have HE2 := Lib.hid e2
  clear hX hb b1 b2 hv hv' e1 e2
  unfold stV
  by_cases ha : okEnts la = true
  · rw [ha] at c1
    have C1 := Lib.hid c1
    by_cases hbb : okEnts lb = true
    · rw [hbb] at c2
      have C2 := Lib.hid c2
      have hl1 := (ok_bounds ha).1
      have hl2 := (ok_bounds hbb).1
      clear c1 c2 ha hbb
      go_enter Try.func6, Try.ntmps6
      go_wp2_with fail
      rw [HX.out]
      refine C1.out.mono ?_
      rintro e w1 ⟨rfl, rfl⟩
      go_wp2_with fail
      refine C2.out.mono ?_
      rintro e w1 ⟨rfl, rfl⟩
      go_wp2_with fail
      refine (shown_any _).mono ?_
      rintro e w1 ⟨rfl, hb1⟩
      have b1 := HB1.out.below hb1
      have b2 := HB2.out.below hb1
      have e1 := HE1.out.below hb1
      have e2 := HE2.out.below hb1
      have hb := HB.out.trans (hb1.mono HB.out.size)
      clear s0 s1 s2 t0 t1 t2 hb1 HB1 HB2 HE1 HE2 HB C1 C2 HX
      have s0 := b1.cell 0 _ rfl
      have s1 := b1.cell 1 _ rfl
      have s2 := b1.cell 2 _ rfl
      have t0 := b2.cell 0 _ rfl
      have t1 := b2.cell 1 _ rfl
      have t2 := b2.cell 2 _ rfl
      have HB := Lib.hid hb
      have HB1 := Lib.hid b1
      have HB2 := Lib.hid b2
      have HE1 := Lib.hid e1
      have HE2 := Lib.hid e2
      clear hb b1 b2 e1 e2
      go_wp2_with fail
      refine (last_any T V _ la _ HE1.out (by omega)).mono ?_
      rintro e w2 ⟨rfl, hb1⟩
      have b1 := HB1.out.below hb1
      have b2 := HB2.out.below hb1
      have e1 := HE1.out.below hb1
      have e2 := HE2.out.below hb1
      have hb := HB.out.trans (hb1.mono HB.out.size)
      clear s0 s1 s2 t0 t1 t2 hb1 HB1 HB2 HE1 HE2 HB
      have s0 := b1.cell 0 _ rfl
      have s1 := b1.cell 1 _ rfl
      have s2 := b1.cell 2 _ rfl
      have t0 := b2.cell 0 _ rfl
      have t1 := b2.cell 1 _ rfl
      have t2 := b2.cell 2 _ rfl
      have HB := Lib.hid hb
      have HB1 := Lib.hid b1
      have HB2 := Lib.hid b2
      have HE1 := Lib.hid e1
      have HE2 := Lib.hid e2
      clear hb b1 b2 e1 e2
      go_wp2_with fail
      refine (last_any T' V' _ lb _ HE2.out (by omega)).mono ?_
      rintro e w3 ⟨rfl, hb1⟩
      have b1 := HB1.out.below hb1
      have b2 := HB2.out.below hb1
      have e1 := HE1.out.below hb1
      have e2 := HE2.out.below hb1
      have hb := HB.out.trans (hb1.mono HB.out.size)
      clear s0 s1 s2 t0 t1 t2 hb1 HB1 HB2 HE1 HE2 HB
      have s0 := b1.cell 0 _ rfl
      have s1 := b1.cell 1 _ rfl
      have s2 := b1.cell 2 _ rfl
      have t0 := b2.cell 0 _ rfl
      have t1 := b2.cell 1 _ rfl
      have t2 := b2.cell 2 _ rfl
      have HB := Lib.hid hb
      have HB1 := Lib.hid b1
      have HB2 := Lib.hid b2
      have HE1 := Lib.hid e1
      have HE2 := Lib.hid e2
      clear hb b1 b2 e1 e2
      go_wp2_with fail
      refine (newer_any T V _ la _ _ _ HE1.out (by omega)).mono ?_
      rintro e w4 ⟨rfl, hb1⟩
      have b1 := HB1.out.below hb1
      have b2 := HB2.out.below hb1
      have e1 := HE1.out.below hb1
      have e2 := HE2.out.below hb1
      have hb := HB.out.trans (hb1.mono HB.out.size)
      clear s0 s1 s2 t0 t1 t2 hb1 HB1 HB2 HE1 HE2 HB
      have s0 := b1.cell 0 _ rfl
      have s1 := b1.cell 1 _ rfl
      have s2 := b1.cell 2 _ rfl
      have t0 := b2.cell 0 _ rfl
      have t1 := b2.cell 1 _ rfl
      have t2 := b2.cell 2 _ rfl
      have HB := Lib.hid hb
      have HB1 := Lib.hid b1
      have HB2 := Lib.hid b2
      have HE1 := Lib.hid e1
      have HE2 := Lib.hid e2
      clear hb b1 b2 e1 e2
      go_wp2_with fail
      refine (newer_any T' V' _ lb _ _ _ HE2.out (by omega)).mono ?_
      rintro e w5 ⟨rfl, hb1⟩
      have b1 := HB1.out.below hb1
      have b2 := HB2.out.below hb1
      have e1 := HE1.out.below hb1
      have e2 := HE2.out.below hb1
      have hb := HB.out.trans (hb1.mono HB.out.size)
      clear s0 s1 s2 t0 t1 t2 hb1 HB1 HB2 HE1 HE2 HB
      have s0 := b1.cell 0 _ rfl
      have s1 := b1.cell 1 _ rfl
      have s2 := b1.cell 2 _ rfl
      have t0 := b2.cell 0 _ rfl
      have t1 := b2.cell 1 _ rfl
      have t2 := b2.cell 2 _ rfl
      have HB := Lib.hid hb
      have HB1 := Lib.hid b1
      have HB2 := Lib.hid b2
      have HE1 := Lib.hid e1
      have HE2 := Lib.hid e2
      clear hb b1 b2 e1 e2
      have f1 := rl.newer_tot la lb
      have f2 := rl.newer_both la lb
      have f3 := newer_any T V _ la (rl.lastTerm la) la.length _ HE1.out (by omega)
      rw [rl.newer_self] at f3
      obtain ⟨bx, hbx⟩ : ∃ b, rl.newer la (rl.lastTerm lb) lb.length = b := ⟨_, rfl⟩
      obtain ⟨y, hby⟩ : ∃ b, rl.newer lb (rl.lastTerm la) la.length = b := ⟨_, rfl⟩
      obtain ⟨q1, hq1⟩ : ∃ b, (((la.length : Nat) : Int) == ((lb.length : Nat) : Int)) = b := ⟨_, rfl⟩
      obtain ⟨q2, hq2⟩ : ∃ b, (((rl.lastTerm la : Nat) : Int) == ((rl.lastTerm lb : Nat) : Int)) = b := ⟨_, rfl⟩
      rw [hbx, hby] at f1 f2
      rw [hq1, hq2] at f2
      rw [hbx, hby]
      have F3 := Lib.hid f3
      clear f3 hbx hby
      cases bx <;> cases y <;> cases q1 <;> cases q2 <;> first | (exfalso; revert f1 f2; decide) | skip
      all_goals
        clear f1 f2
        go_wp2_with fail
        refine F3.out.mono ?_
        rintro e w6 ⟨rfl, hb1⟩
        have HB6 := Lib.hid (HB.out.trans (hb1.mono HB.out.size))
        clear hb1
        go_wp2
        go_ret
        exact ⟨rfl, HB6.out⟩
    · rw [Bool.not_eq_true] at hbb
      rw [hbb] at c2
      have C2 := Lib.hid c2
      clear c1 c2 ha hbb
      go_enter Try.func6, Try.ntmps6
      go_wp2_with fail
      rw [HX.out]
      refine C1.out.mono ?_
      rintro e w1 ⟨rfl, rfl⟩
      go_wp2_with fail
      refine C2.out.mono ?_
      rintro e w1 ⟨rfl, rfl⟩
      go_wp2_with fail
      refine (shown_any _).mono ?_
      rintro e w1 ⟨rfl, hb1⟩
      have HB2 := Lib.hid (HB.out.trans (hb1.mono HB.out.size))
      clear hb1
      go_wp2
      go_ret
      exact ⟨rfl, HB2.out⟩
  · rw [Bool.not_eq_true] at ha
    rw [ha] at c1
    have C1 := Lib.hid c1
    clear c1 c2 ha
    go_enter Try.func6, Try.ntmps6
    go_wp2_with fail
    rw [HX.out]
    refine C1.out.mono ?_
    rintro e w1 ⟨rfl, rfl⟩
    go_wp2_with fail
    refine (shown_any _).mono ?_
    rintro e w1 ⟨rfl, hb1⟩
    have HB2 := Lib.hid (HB.out.trans (hb1.mono HB.out.size))
    clear hb1
    go_wp2
    go_ret
    exact ⟨rfl, HB2.out⟩
end Go.Proofs.Ytgaamknkigdoeaa
