/- The law's own 'shown': walked: it is true. -/
import Derived.Test.YtdnoeahhidmkbaaDoorSvMatchSome
namespace Go.Proofs.YtdnoeahhidmkbaaDoor.Sv
open Go Go.RowKit
set_option maxRecDepth 100000

theorem match_shown : rl.match_ [(1, []), (1, []), (1, [])] 1 1 [(2, [120])] = ([(1, []), (2, [120])], 2, 0) := by decide
theorem ents_lit (w : World) (ls : List rl.Ent) (cs : Array Value) (t : TypeId) (hc : cs.toList = entCells ls) (n : Nat) (hn : ls.length = n) (hm : n ≤ maxLen) : Ents (w.alloc (.cells cs t)) (.slice (some ⟨w.heap.size, 0, none⟩) n n) ls := by
  subst hn
  refine ⟨_, ls.length, rfl, Nat.le_refl _, hm, fun _ => ⟨w.heap.size, 0, rfl, fun k hk => ?_⟩⟩
  obtain ⟨h0, h1⟩ := entCells_get ls k hk
  have h := heap_alloc_new w (.cells cs t)
  rw [cell_of_row _ _ _ _ _ _ h, cell_of_row _ _ _ _ _ _ h]
  rw [← hc] at h0 h1
  rw [Nat.zero_add]
  exact ⟨by simpa using h0, by simpa using h1⟩
theorem Ents.form {w : World} {u : Value} {ls : List rl.Ent} (h : Ents w u ls) : ∃ A c, u = .slice A ls.length c := by
  obtain ⟨A, c, e, _⟩ := h
  exact ⟨A, c, e⟩
theorem below_alloc (w : World) (o : Obj) : Below w.heap.size w (w.alloc o) := (Below.refl _ _).alloc (Nat.le_refl _) _
set_option maxHeartbeats 2000000 in
theorem shown_any (w : World) : Calls Tryd.prog 28 #[] w fun e w' => e = .returned (.bool true) ∧ Below w.heap.size w w' := by
  obtain ⟨A, hA⟩ : ∃ A, w.alloc (.cells #[.int .u64 1, .string ⟨#[]⟩, .int .u64 1, .string ⟨#[]⟩, .int .u64 1, .string ⟨#[]⟩] 101) = A := ⟨_, rfl⟩
  obtain ⟨B, hB⟩ : ∃ B, A.alloc (.cells #[.int .u64 0, .int .i64 (-1), .slice (some ⟨w.heap.size, 0, none⟩) 3 3] 61) = B := ⟨_, rfl⟩
  obtain ⟨C, hC⟩ : ∃ C, B.alloc (.cells #[.int .u64 2, .string ⟨#[120]⟩] 101) = C := ⟨_, rfl⟩
  have ba : Below w.heap.size w A := by rw [← hA]; exact below_alloc _ _
  have bb : Below A.heap.size A B := by rw [← hB]; exact below_alloc _ _
  have bc : Below B.heap.size B C := by rw [← hC]; exact below_alloc _ _
  have sa : A.heap.size = w.heap.size + 1 := by rw [← hA]; simp
  have sb : B.heap.size = w.heap.size + 1 + 1 := by rw [← hB]; simp [sa]
  have sc : C.heap.size = w.heap.size + 1 + 1 + 1 := by rw [← hC]; simp [sb]
  have e1 : Ents A (.slice (some ⟨w.heap.size, 0, none⟩) 3 3) [(1, []), (1, []), (1, [])] := by rw [← hA]; exact ents_lit w _ _ _ rfl 3 rfl (by unfold maxLen; omega)
  have e2 : Ents C (.slice (some ⟨w.heap.size + 1 + 1, 0, none⟩) 1 1) [(2, [120])] := by rw [← hC, ← sb]; exact ents_lit B _ _ _ rfl 1 rfl (by unfold maxLen; omega)
  have bs : Blk B (w.heap.size + 1) [.int .u64 0, .int .i64 (-1), .slice (some ⟨w.heap.size, 0, none⟩) 3 3] 61 := by rw [← hB, ← sa]; exact Blk.new _ _ _
  have bs2 := bs.below bc
  have hm := match_any 0 (-1) _ _ _ _ 1 1 C ((e1.below bb).below bc) e2 (by decide) (by decide) (by decide)
  have ball : Below w.heap.size w C := (ba.trans (bb.mono (by omega))).trans (bc.mono (by omega))
  unfold stV at hm
  rw [show ((0 : Nat) : Int) = 0 from rfl, show ((1 : Nat) : Int) = 1 from rfl] at hm
  have HM := Lib.hid hm
  have HBS := Lib.hid bs2
  have HALL := Lib.hid ball
  clear hm e1 e2 bs ba bb bc bs2 ball
  have HA := Lib.hid hA
  have HB := Lib.hid hB
  have HC := Lib.hid hC
  have SC := Lib.hid sc
  clear hA hB hC sa sb sc
  go_enter Tryd.func28, Tryd.ntmps28
  go_wp2_with fail
  have ha2 := HA.out
  have hb2 := HB.out
  have hc2 := HC.out
  rw [← ha2] at hb2
  rw [← hb2] at hc2
  rw [hc2]
  clear ha2 hb2 hc2
  refine HM.out.mono ?_
  rintro e w1 ⟨u, rfl, hE, hb1⟩
  rw [match_shown] at hE
  rw [match_shown]
  obtain ⟨Au, cu, hu⟩ := hE.form
  obtain rfl : u = .slice Au 2 cu := hu
  have hbs1 := HBS.out.below hb1
  have hb2 := HALL.out.trans (hb1.mono HALL.out.size)
  have hE2 := hE.below (below_alloc w1 (.cells #[.int .u64 0, .int .i64 (-1), .slice Au 2 cu] 61))
  have hl := last_any 0 (-1) _ _ _ hE2 (by decide)
  unfold stV at hl
  rw [show ((0 : Nat) : Int) = 0 from rfl] at hl
  have hbs2 := hbs1.below (below_alloc w1 (.cells #[.int .u64 0, .int .i64 (-1), .slice Au 2 cu] 61))
  have s2 := hbs2.cell 2 _ rfl
  have HL := Lib.hid hl
  have HBS2 := Lib.hid hbs2
  have hb3 := hb2.trans ((below_alloc w1 (.cells #[.int .u64 0, .int .i64 (-1), .slice Au 2 cu] 61)).mono hb2.size)
  have HB3 := Lib.hid hb3
  clear hl hbs1 hbs2 hb1 hb2 hb3 hE hE2
  unfold stV
  go_wp2_with fail
  refine HL.out.mono ?_
  rintro e w2 ⟨rfl, hb4⟩
  have s22 := (HBS2.out.below hb4).cell 2 _ rfl
  have HB4 := Lib.hid (HB3.out.trans (hb4.mono HB3.out.size))
  clear hb4 s2
  go_wp2
  go_ret
  exact ⟨rfl, HB4.out⟩
end Go.Proofs.YtdnoeahhidmkbaaDoor.Sv
