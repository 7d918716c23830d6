/- KcErrChain: one behind the other. -/
import Derived.Test.YtmcibggjolckoaaGreatDoorG42
namespace Go.Proofs.YtmcibggjolckoaaGreatDoor
open Go Go.RowKit Go.Deep
set_option maxRecDepth 100000
/-- a calm cluster, of which node i is so, with L messages on their way -/
def Sta (w0 : World) (c : Nat) (P : cl.Clu → Prop) (L M : Nat) (W : World) : Prop := ∃ C, Calm 50000 w0 c 3 M C W ∧ C.way.length = L ∧ P C
structure Chain (w0 : World) (c : Nat) (i k : Int) (want lead start : Int) (dk : Option Addr) (S0 : World → Prop) (V : World → Prop) : Prop where
  S : ∃ (S : Nat → World → Prop) (T U : World → Prop), (∀ W, S0 W → S 2 W)
    ∧ (∀ L W, S L W → Calls Tryz.prog 25 #[.pointer (some ⟨c, 0, none⟩)] W fun e w' => e = .returned (.int .i64 (L : Int)) ∧ W = w')
    ∧ (∀ W, S 2 W → Calls Tryz.prog 27 #[.pointer (some ⟨c, 0, none⟩), .int .i64 i] W fun e w' => ∃ d : Option Addr, d.isSome = dk.isSome ∧ e = .returned (.pointer d) ∧ S 2 w')
    ∧ (∀ W, S 2 W → Calls Tryz.prog 21 #[.pointer (some ⟨c, 0, none⟩), .int .i64 i, .int .i64 0, .int .i64 0] W fun e w' => e = .returned (.int .i64 want) ∧ S 2 w')
    ∧ (0 ≤ k ∧ k < 2 → ∀ W, S 2 W → Calls Tryz.prog 28 #[.pointer (some ⟨c, 0, none⟩), .int .i64 k] W fun e w' => e = .returned (.int .i64 0) ∧ S 3 w')
    ∧ (¬ (0 ≤ k ∧ k < 2) → ∀ W, S 2 W → Calls Tryz.prog 28 #[.pointer (some ⟨c, 0, none⟩), .int .i64 k] W fun e w' => e = .returned (.int .i64 1) ∧ S 2 w')
    ∧ (0 ≤ k ∧ k < 2 → ∀ W, S 3 W → Calls Tryz.prog 29 #[.pointer (some ⟨c, 0, none⟩), .int .i64 k] W fun e w' => e = .returned (.int .i64 0) ∧ T w')
    ∧ (¬ (0 ≤ k ∧ k < 2) → ∀ W, S 2 W → Calls Tryz.prog 29 #[.pointer (some ⟨c, 0, none⟩), .int .i64 k] W fun e w' => e = .returned (.int .i64 1) ∧ T w')
    ∧ (∀ W, T W → Calls Tryz.prog 13 #[.pointer (some ⟨c, 0, none⟩), .int .i64 i, .string ⟨#[120]⟩] W fun e w' => e = .returned (.tuple #[.int .u64 0, .int .i64 lead]) ∧ T w')
    ∧ (∀ W, T W → Calls Tryz.prog 26 #[.pointer (some ⟨c, 0, none⟩), .int .i64 i] W fun e w' => e = .returned (.int .i64 want) ∧ U w')
    ∧ (∀ W, U W → Calls Tryz.prog 22 #[.pointer (some ⟨c, 0, none⟩), .int .i64 i] W fun e w' => e = .returned (.int .i64 start) ∧ V w')
  del : ∀ (d : Int), d < 0 ∨ 200 ≤ d → ∀ W, V W → Calls Tryz.prog 30 #[.pointer (some ⟨c, 0, none⟩), .int .i64 d] W fun e w' => e = .returned (.int .i64 1) ∧ V w'
  bel : ∀ W, V W → Below w0.heap.size w0 W
section
variable {w0 : World} {c : Nat} {P : cl.Clu → Prop} {L M : Nat} {W : World}
theorem Sta.later {w' : World} (h : Sta w0 c P L M W) (hb : Below W.heap.size W w') : Sta w0 c P L M w' := by
  obtain ⟨C, h1, h2, h3⟩ := h
  exact ⟨C, h1.later hb, h2, h3⟩
theorem sta_wait (h : Sta w0 c P L M W) : Calls Tryz.prog 25 #[.pointer (some ⟨c, 0, none⟩)] W fun e w' => e = .returned (.int .i64 (L : Int)) ∧ W = w' := by
  obtain ⟨C, h1, h2, h3⟩ := h
  have := waiting_calm h1
  rw [h2] at this
  exact this
theorem sta_double {k : Int} (hP : ∀ C W, P C → P { C with way := W }) (h : Sta w0 c P 2 M W) (hk : 0 ≤ k ∧ k < 2) : Calls Tryz.prog 28 #[.pointer (some ⟨c, 0, none⟩), .int .i64 k] W fun e w' => e = .returned (.int .i64 0) ∧ Sta w0 c P 3 M w' := by
  obtain ⟨C, h1, h2, h3⟩ := h
  obtain ⟨j, rfl⟩ := Int.eq_ofNat_of_zero_le hk.1
  refine (double_calm (j := j) h1 (by omega) (by omega)).mono ?_
  rintro e w' ⟨rfl, W2, h4, h5⟩
  exact ⟨rfl, _, h5, by show W2.length = 3; omega, hP _ _ h3⟩
theorem sta_drop {k : Int} (hP : ∀ C W, P C → P { C with way := W }) (h : Sta w0 c P 3 M W) (hk : 0 ≤ k ∧ k < 2) : Calls Tryz.prog 29 #[.pointer (some ⟨c, 0, none⟩), .int .i64 k] W fun e w' => e = .returned (.int .i64 0) ∧ ∃ L, Sta w0 c P L M w' := by
  obtain ⟨C, h1, h2, h3⟩ := h
  obtain ⟨j, rfl⟩ := Int.eq_ofNat_of_zero_le hk.1
  refine (drop_calm (j := j) h1 (by omega)).mono ?_
  rintro e w' ⟨rfl, W2, h5⟩
  exact ⟨rfl, _, _, h5, rfl, hP _ _ h3⟩
theorem sta_double_no {k : Int} (h : Sta w0 c P 2 M W) (hk : ¬ (0 ≤ k ∧ k < 2)) : Calls Tryz.prog 28 #[.pointer (some ⟨c, 0, none⟩), .int .i64 k] W fun e w' => e = .returned (.int .i64 1) ∧ Sta w0 c P 2 M w' := by
  have h0 := h
  obtain ⟨C, h1, h2, h3⟩ := h
  obtain ⟨R, q, F, wv, a1, _⟩ := h1.at_
  refine (double_no a1 (by rw [h2]; exact hk)).mono ?_
  rintro e w' ⟨rfl, rfl⟩
  exact ⟨rfl, h0⟩
theorem sta_drop_no {k : Int} (h : Sta w0 c P 2 M W) (hk : ¬ (0 ≤ k ∧ k < 2)) : Calls Tryz.prog 29 #[.pointer (some ⟨c, 0, none⟩), .int .i64 k] W fun e w' => e = .returned (.int .i64 1) ∧ ∃ L, Sta w0 c P L M w' := by
  have h0 := h
  obtain ⟨C, h1, h2, h3⟩ := h
  obtain ⟨R, q, F, wv, a1, _⟩ := h1.at_
  refine (drop_no a1 (by rw [h2]; exact hk)).mono ?_
  rintro e w' ⟨rfl, hb⟩
  exact ⟨rfl, 2, h0.later hb⟩
theorem sta_del {d : Int} (h : ∃ L M P, Sta w0 c P L M W) (hd : d < 0 ∨ 200 ≤ d) : Calls Tryz.prog 30 #[.pointer (some ⟨c, 0, none⟩), .int .i64 d] W fun e w' => e = .returned (.int .i64 1) ∧ ∃ L M P, Sta w0 c P L M w' := by
  obtain ⟨L, M, P, C, h1, h2, h3⟩ := h
  refine (deliver_none h1 hd).mono ?_
  rintro e w' ⟨rfl, h4⟩
  exact ⟨rfl, L, M, P, C, h4, h2, h3⟩
theorem sta_bel (h : ∃ L M P, Sta w0 c P L M W) : Below w0.heap.size w0 W := by
  obtain ⟨L, M, P, C, h1, h2, h3⟩ := h
  exact h1.bel
theorem chain_out {i k : Int} (hi : ¬ (0 ≤ i ∧ i < 3)) : Chain w0 c i k 1 1 1 none (Sta w0 c (fun _ => True) 2 16) (fun W => ∃ L M P, Sta w0 c P L M W) := by
  have onno : ∀ {L W} (h : Sta w0 c (fun _ => True) L 16 W) fv, Calls Tryz.prog 32 #[cptr c, .int .i64 i, fv] W fun e w' => e = .returned (.int .i64 1) ∧ Below W.heap.size W w' := fun h fv => by
    obtain ⟨C, h1, _⟩ := h
    exact onno_calm fv h1 hi
  refine ⟨⟨fun L W => Sta w0 c (fun _ => True) L 16 W, fun W => ∃ L, Sta w0 c (fun _ => True) L 16 W, fun W => ∃ L, Sta w0 c (fun _ => True) L 16 W, fun W h => h, fun L W h => sta_wait h, fun W h => ?_, fun W h => ?_, fun hk W h => sta_double (fun _ _ _ => trivial) h hk, fun hk W h => sta_double_no h hk, fun hk W h => sta_drop (fun _ _ _ => trivial) h hk, fun hk W h => sta_drop_no h hk, fun W h => ?_, fun W h => ?_, fun W h => ?_⟩, fun d hd W h => sta_del h hd, fun W h => sta_bel h⟩
  · have h0 := h
    obtain ⟨C, h1, _⟩ := h
    obtain ⟨R, q, F, wv, a1, _⟩ := h1.at_
    refine (disk_no (i := i) a1 (by rw [h1.cn]; exact hi)).mono ?_
    rintro e w' ⟨rfl, hb⟩
    exact ⟨none, rfl, rfl, h0.later hb⟩
  · have h0 := h
    obtain ⟨C, h1, _⟩ := h
    obtain ⟨R, q, F, wv, a1, _⟩ := h1.at_
    refine (fuse_no (i := i) 0 0 a1 (fun fv w hw => on_no fv hw (by rw [h1.cn]; exact hi))).mono ?_
    rintro e w' ⟨rfl, hb⟩
    exact ⟨rfl, h0.later hb⟩
  · obtain ⟨L, h⟩ := h
    have h0 := h
    obtain ⟨C, h1, _⟩ := h
    obtain ⟨R, q, F, wv, a1, _⟩ := h1.at_
    refine (propose_no (i := i) (z := 1) (by decide) [120] a1 (fun fv w hw => on_no fv hw (by rw [h1.cn]; exact hi))).mono ?_
    rintro e w' ⟨rfl, hb⟩
    exact ⟨rfl, L, h0.later hb⟩
  · obtain ⟨L, h⟩ := h
    have h0 := h
    obtain ⟨C, h1, _⟩ := h
    obtain ⟨R, q, F, wv, a1, _⟩ := h1.at_
    refine (tick_no (i := i) a1 (fun fv w hw => on_no fv hw (by rw [h1.cn]; exact hi))).mono ?_
    rintro e w' ⟨rfl, hb⟩
    exact ⟨rfl, L, h0.later hb⟩
  · obtain ⟨L, h⟩ := h
    have h0 := h
    obtain ⟨C, h1, _⟩ := h
    obtain ⟨R, q, F, wv, a1, _⟩ := h1.at_
    refine (start_out (i := i) a1 (by rw [h1.cn]; exact hi)).mono ?_
    rintro e w' ⟨rfl, hb⟩
    exact ⟨rfl, L, 16, _, h0.later hb⟩
theorem chain_down {j : Nat} {k : Int} (hj : j < 3) (ht : TabAt w0) : Chain w0 c (j : Int) k 6 6 0 (some ⟨0, 0, none⟩) (Sta w0 c (fun C => (C.p j).up = false) 2 16) (fun W => ∃ L M P, Sta w0 c P L M W) := by
  refine ⟨⟨fun L W => Sta w0 c (fun C => (C.p j).up = false) L 16 W, fun W => ∃ L, Sta w0 c (fun C => (C.p j).up = false) L 16 W, fun W => ∃ L, Sta w0 c (fun C => (C.p j).up = false) L 16 W, fun W h => h, fun L W h => sta_wait h, fun W h => ?_, fun W h => ?_, fun hk W h => sta_double (fun _ _ h => h) h hk, fun hk W h => sta_double_no h hk, fun hk W h => sta_drop (fun _ _ h => h) h hk, fun hk W h => sta_drop_no h hk, fun W h => ?_, fun W h => ?_, fun W h => ?_⟩, fun d hd W h => sta_del h hd, fun W h => sta_bel h⟩
  · have h0 := h
    obtain ⟨C, h1, _⟩ := h
    obtain ⟨R, q, F, wv, a1, _⟩ := h1.at_
    refine (disk_yes (i := j) a1 (by rw [h1.cn]; exact hj)).mono ?_
    rintro e w' ⟨rfl, hb⟩
    exact ⟨some ⟨(F j).p, 0, none⟩, rfl, rfl, h0.later hb⟩
  · have h0 := h
    obtain ⟨C, h1, _, hd⟩ := h
    obtain ⟨R, q, F, wv, a1, _⟩ := h1.at_
    refine (fuse_no (i := (j : Int)) 0 0 a1 (fun fv w hw => on_down fv hw (by rw [h1.cn]; exact hj) hd)).mono ?_
    rintro e w' ⟨rfl, hb⟩
    exact ⟨rfl, h0.later hb⟩
  · obtain ⟨L, h⟩ := h
    have h0 := h
    obtain ⟨C, h1, _, hd⟩ := h
    obtain ⟨R, q, F, wv, a1, _⟩ := h1.at_
    refine (propose_no (i := (j : Int)) (z := 6) (by decide) [120] a1 (fun fv w hw => on_down fv hw (by rw [h1.cn]; exact hj) hd)).mono ?_
    rintro e w' ⟨rfl, hb⟩
    exact ⟨rfl, L, h0.later hb⟩
  · obtain ⟨L, h⟩ := h
    have h0 := h
    obtain ⟨C, h1, _, hd⟩ := h
    obtain ⟨R, q, F, wv, a1, _⟩ := h1.at_
    refine (tick_no (i := (j : Int)) a1 (fun fv w hw => on_down fv hw (by rw [h1.cn]; exact hj) hd)).mono ?_
    rintro e w' ⟨rfl, hb⟩
    exact ⟨rfl, L, h0.later hb⟩
  · obtain ⟨L, h⟩ := h
    obtain ⟨C, h1, _, hd⟩ := h
    refine (start_calm h1 ht hj hd).mono ?_
    rintro e w' ⟨rfl, h2⟩
    exact ⟨rfl, _, 16, fun _ => True, _, h2, rfl, trivial⟩
theorem chain_up {j : Nat} {k : Int} (hj : j < 3) (ht : TabAt w0) : Chain w0 c (j : Int) k 0 170 5 (some ⟨0, 0, none⟩) (Sta w0 c (fun C => (C.p j).up = true ∧ (C.p j).x.role ≠ 2) 2 16) (fun W => ∃ L M P, Sta w0 c P L M W) := by
  have hbd : Bd 50000 16 := ⟨by decide, by decide⟩
  refine ⟨⟨fun L W => Sta w0 c (fun C => (C.p j).up = true ∧ (C.p j).x.role ≠ 2) L 16 W, fun W => ∃ L, Sta w0 c (fun C => (C.p j).up = true ∧ (C.p j).x.role ≠ 2) L 16 W, fun W => ∃ L, Sta w0 c (fun C => (C.p j).up = true) L 17 W, fun W h => h, fun L W h => sta_wait h, fun W h => ?_, fun W h => ?_, fun hk W h => sta_double (fun _ _ h => h) h hk, fun hk W h => sta_double_no h hk, fun hk W h => sta_drop (fun _ _ h => h) h hk, fun hk W h => sta_drop_no h hk, fun W h => ?_, fun W h => ?_, fun W h => ?_⟩, fun d hd W h => sta_del h hd, fun W h => sta_bel h⟩
  · have h0 := h
    obtain ⟨C, h1, _⟩ := h
    obtain ⟨R, q, F, wv, a1, _⟩ := h1.at_
    refine (disk_yes (i := j) a1 (by rw [h1.cn]; exact hj)).mono ?_
    rintro e w' ⟨rfl, hb⟩
    exact ⟨some ⟨(F j).p, 0, none⟩, rfl, rfl, h0.later hb⟩
  · obtain ⟨C, h1, h2, hu⟩ := h
    refine (fuse_calm h1 hj hu.1).mono ?_
    rintro e w' ⟨rfl, h3⟩
    exact ⟨rfl, C, h3, h2, hu⟩
  · obtain ⟨L, h⟩ := h
    have h0 := h
    obtain ⟨C, h1, _, hu⟩ := h
    obtain ⟨R, q, F, wv, a1, _⟩ := h1.at_
    refine (propose_not [120] (by decide) a1 (h1.ready hbd hj hu.1) ht hu.2).mono ?_
    rintro e w' ⟨rfl, hb⟩
    exact ⟨rfl, L, h0.later hb⟩
  · obtain ⟨L, h⟩ := h
    obtain ⟨C, h1, _, hu⟩ := h
    refine (tick_calm h1 hbd ht hj hu.1).mono ?_
    rintro e w' ⟨rfl, h2⟩
    exact ⟨rfl, _, _, h2, rfl, by show (cl.upd C.p j _ j).up = true; rw [cl.upd_same]⟩
  · obtain ⟨L, h⟩ := h
    have h0 := h
    obtain ⟨C, h1, _, hu⟩ := h
    obtain ⟨R, q, F, wv, a1, _⟩ := h1.at_
    refine (start_up a1 (by rw [h1.cn]; exact hj) hu).mono ?_
    rintro e w' ⟨rfl, hb⟩
    exact ⟨rfl, L, 17, _, h0.later hb⟩
end
end Go.Proofs.YtmcibggjolckoaaGreatDoor
