/- raftlog.Match walked. -/
import Derived.Test.YtkoidphhlfjlhaaRfBeside
namespace Go.Proofs.Ytkoidphhlfjlhaa
open Go Go.RowKit

theorem results_cell_two {P : Program} {fn : Func} {p u v : Tmp} {ty : TypeId} (h : fn.results = #[.cell p ty, .tmp u, .tmp v]) (tmps : Array Value) (w : World) (g : Nat) (t : TypeId) (cs : Array Value) (fr : Nat × Nat) (d : TypeDesc)
    (hp : tmps.getD p undef = .pointer (some ⟨g, 0, none⟩)) (hg : w.heap[g]? = some (.cells cs t fr))
    (hu : P.underlying ty = some d) (hd : (match d with | .struct _ | .array _ _ => true | _ => false) = true) (hi : (P.info? ty).map (·.size) = some cs.size) :
    (results fn tmps).run P w = .ok (.tuple #[.agg cs, tmps.getD u undef, tmps.getD v undef]) w := by
  have hp' : tmps[p]?.getD undef = .pointer (some ⟨g, 0, none⟩) := by simpa using hp
  simp [results, h, hp', asAddr, run_loadVar_row w g t ty cs fr d hg hu hd hi]

def MatchPost (T : Nat) (V : Int) (v : Value) (ls : List rl.Ent) (prev pt : Nat) (l : List rl.Ent) (w : World) (e : Ending) (w' : World) : Prop :=
  ∃ u, e = .returned (.tuple #[stV T V u, .int .u64 ((rl.match_ ls prev pt l).2.1 : Nat), .int .i64 ((rl.match_ ls prev pt l).2.2 : Nat)]) ∧ Ents w' u (rl.match_ ls prev pt l).1 ∧ (u = v ∨ RowT w' u) ∧ Below w.heap.size w w'

set_option maxHeartbeats 2000000 in
theorem match_none (T : Nat) (V : Int) (A : Option Addr) (n c : Nat) (ls : List rl.Ent) (prev pt : Nat) (lv : Value) (l : List rl.Ent) (w : World) (hn : ls.length = n) (hv : Ents w (.slice A n c) ls) (hl : n ≤ 10000) (hp : prev < 18446744073709551616) (hne : rl.termAt ls prev ≠ (pt, true)) :
    Calls Try.prog 36 #[stV T V (.slice A n c), .int .u64 (prev : Int), .int .u64 (pt : Int), lv] w (MatchPost T V (.slice A n c) ls prev pt l w) := by
  have hfin : rl.match_ ls prev pt l = (ls, 0, 3) := by unfold rl.match_; rw [if_neg hne]
  have hb : Below w.heap.size w ((w.alloc (.cells #[.int .u64 (T : Int), .int .i64 V, .slice A n c] 25)).alloc (.cells #[.int .u64 0, .int .i64 0, .slice none 0 0] 25)) := ((Below.refl _ w).alloc (Nat.le_refl _) _).alloc (by simp) _
  have bs := (Blk.new w [.int .u64 (T : Int), .int .i64 V, .slice A n c] 25).alloc (.cells #[.int .u64 0, .int .i64 0, .slice none 0 0] 25)
  have br := Blk.new (w.alloc (.cells #[.int .u64 (T : Int), .int .i64 V, .slice A n c] 25)) [.int .u64 0, .int .i64 0, .slice none 0 0] 25
  simp only [World.size_alloc] at br
  have hta := termAt_any T V (.slice A n c) ls prev _ (hv.below hb) (by omega) hp
  obtain ⟨t, is, ht⟩ : ∃ t is, rl.termAt ls prev = (t, is) := ⟨_, _, rfl⟩
  rw [ht] at hta hne
  have Hfin := Lib.hid hfin
  have HTA := Lib.hid hta
  have Hb := Lib.hid hb
  have HBS := Lib.hid bs
  have HBR := Lib.hid br
  have Hv := Lib.hid hv
  clear hfin hta hb bs br hv ht
  unfold stV at *
  go_enter Try.func36, Try.ntmps36
  go_wp2_with fail
  refine HTA.out.mono ?_
  rintro e w1 ⟨rfl, hb1⟩
  have bs1 := HBS.out.below hb1
  have br1 := HBR.out.below hb1
  have HB1 := Lib.hid (Hb.out.trans (hb1.mono Hb.out.size))
  have s0 := bs1.cell 0 _ rfl
  have s1 := bs1.cell 1 _ rfl
  have s2 := bs1.cell 2 _ rfl
  have f0 := br1.free 0
  have f1 := br1.free 1
  have f2 := br1.free 2
  have r0 := br1.cell 0 _ rfl
  have r1 := br1.cell 1 _ rfl
  have r2 := br1.cell 2 _ rfl
  have hR2 := ((br1.set 0 (.int .u64 (T : Int))).set 1 (.int .i64 V)).set 2 (.slice A n c)
  have HR2 := Lib.hid hR2
  clear hb1 bs1 br1 hR2
  have hend : ∀ X : World, X = ((w1.setCell ⟨w.heap.size + 1, 0, none⟩ (.int .u64 (T : Int))).setCell ⟨w.heap.size + 1, 1, none⟩ (.int .i64 V)).setCell ⟨w.heap.size + 1, 2, none⟩ (.slice A n c) → Below w.heap.size w X := by
    rintro X rfl
    have g := grown_trans (grown_trans (set_grown w1 ⟨w.heap.size + 1, 0, none⟩ (.int .u64 (T : Int))) (set_grown _ ⟨w.heap.size + 1, 1, none⟩ (.int .i64 V))) (set_grown _ ⟨w.heap.size + 1, 2, none⟩ (.slice A n c))
    exact HB1.out.grown g HB1.out.size (fun j hj => by cases hj; exact Nat.le_succ _)
  have HEND := Lib.hid hend
  clear hend
  cases is with
  | false =>
    go_wp2
    refine bodyPost_ret (results_cell_two rfl _ _ (w.heap.size + 1) _ _ (0, 0) _ rfl HR2.out Try.underlying25 rfl state_size) rfl ?_
    unfold MatchPost
    rw [Hfin.out]
    exact ⟨_, rfl, Hv.out.below (HEND.out _ rfl), .inl rfl, HEND.out _ rfl⟩
  | true =>
    have hne' : ((t : Int) != (pt : Int)) = true := by
      rw [bne_iff_ne]; intro h; apply hne; rw [show t = pt from by omega]
    go_wp2
    refine bodyPost_ret (results_cell_two rfl _ _ (w.heap.size + 1) _ _ (0, 0) _ rfl HR2.out Try.underlying25 rfl state_size) rfl ?_
    unfold MatchPost
    rw [Hfin.out]
    exact ⟨_, rfl, Hv.out.below (HEND.out _ rfl), .inl rfl, HEND.out _ rfl⟩
end Go.Proofs.Ytkoidphhlfjlhaa
