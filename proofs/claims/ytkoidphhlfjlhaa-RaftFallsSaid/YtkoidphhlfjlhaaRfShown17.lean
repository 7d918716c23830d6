/- law17's shown: true. -/
import Derived.Test.YtkoidphhlfjlhaaRfMsgs17
import Derived.Test.YtkoidphhlfjlhaaRfGood
namespace Go.Proofs.Ytkoidphhlfjlhaa
open Go Go.RowKit Go.Deep
set_option maxRecDepth 100000

/-- a variable that holds a node -/
structure NBox (w : World) (g : Nat) (n : rf.Node) (A : Option Addr) (c : Nat) : Prop where
  blk : Blk w g (ndC n (.slice A n.log.length c)) 33
  ents : Ents w (.slice A n.log.length c) n.log
  ok : NOk n
theorem NBox.later {w w' : World} {g : Nat} {n : rf.Node} {A : Option Addr} {c : Nat} (h : NBox w g n A c) (hb : Below w.heap.size w w') : NBox w' g n A c :=
  ⟨h.blk.below hb, h.ents.below hb, h.ok⟩
theorem ndC_no (n : rf.Node) (A : Option Addr) (k c : Nat) : ∀ u ∈ ndC n (.slice A k c), ∀ s, u ≠ .string s := by
  intro u hu s e
  subst e
  simp [ndC] at hu
/-- what a call told is laid into the box -/
theorem NBox.fill {w : World} {g : Nat} {old : List Value} {n : rf.Node} {A : Option Addr} {c : Nat} (hb : Blk w g old 33) (hno : ∀ u ∈ old, ∀ s, u ≠ .string s) (he : Ents w (.slice A n.log.length c) n.log) (ok : NOk n) :
    NBox (w.setRow g (ndC n (.slice A n.log.length c)).toArray) g n A c := ⟨hb.row _, he.farRow hb hno, ok⟩
/-- .. and other boxes stay -/
theorem NBox.apart {w : World} {g g2 : Nat} {old vs : List Value} {n : rf.Node} {A : Option Addr} {c : Nat} (h : NBox w g n A c) (hb : Blk w g2 old 33) (hno : ∀ u ∈ old, ∀ s, u ≠ .string s) (hne : g ≠ g2) : NBox (w.setRow g2 vs.toArray) g n A c :=
  ⟨(setRow_apart w g2 _ g hne).trans h.blk, h.ents.farRow hb hno, h.ok⟩
theorem size30 {n : rf.Node} (h : NOk n) (ev : Value) : (ndC n ev).toArray.size = 30 := by rw [List.size_toArray, ndC_len h]
theorem shown_ticks (k : Nat) (h : k ≤ 9) : ticks (rf.new 0 1 0 (-1) []) k = ⟨0, 1, 0, -1, [], 0, -1, 0, (k : Int), List.replicate 7 false, List.replicate 7 0, List.replicate 7 0⟩ := by
  induction k with
  | zero => rfl
  | succ k ih =>
    unfold ticks
    rw [ih (by omega)]
    unfold rf.tick
    dsimp only
    rw [if_neg (by decide), if_neg (by omega)]
    simp
theorem shown_node : ticks (rf.new 0 1 0 (-1) []) 10 = ⟨0, 1, 1, 0, [(1, [])], 2, 0, 1, 0, [true, false, false, false, false, false, false], [2, 1, 1, 1, 1, 1, 1], [1, 0, 0, 0, 0, 0, 0]⟩ := by
  unfold ticks
  rw [shown_ticks 9 (by omega)]
  have e1 : rf.stood ⟨0, 1, 0, -1, [], 0, -1, 0, 10, List.replicate 7 false, List.replicate 7 0, List.replicate 7 0⟩ = ⟨0, 1, 1, 0, [], 1, -1, 0, 0, List.replicate 7 false, List.replicate 7 0, List.replicate 7 0⟩ := rfl
  have e2 : rf.elected ⟨0, 1, 1, 0, [], 1, -1, 0, 0, [true, false, false, false, false, false, false], List.replicate 7 0, List.replicate 7 0⟩ = true := by decide
  have e3 : rf.led ⟨0, 1, 1, 0, [], 1, -1, 0, 0, [true, false, false, false, false, false, false], List.replicate 7 0, List.replicate 7 0⟩ = ⟨0, 1, 1, 0, [], 2, 0, 0, 0, [true, false, false, false, false, false, false], List.replicate 7 1, List.replicate 7 0⟩ := rfl
  have e4 : rf.grown ⟨0, 1, 1, 0, [], 2, 0, 0, 0, [true, false, false, false, false, false, false], List.replicate 7 1, List.replicate 7 0⟩ [] = ⟨0, 1, 1, 0, [(1, [])], 2, 0, 0, 0, [true, false, false, false, false, false, false], [2, 1, 1, 1, 1, 1, 1], [1, 0, 0, 0, 0, 0, 0]⟩ := rfl
  have e5 : rf.tally ⟨0, 1, 1, 0, [(1, [])], 2, 0, 0, 0, [true, false, false, false, false, false, false], [2, 1, 1, 1, 1, 1, 1], [1, 0, 0, 0, 0, 0, 0]⟩ = ⟨0, 1, 1, 0, [(1, [])], 2, 0, 1, 0, [true, false, false, false, false, false, false], [2, 1, 1, 1, 1, 1, 1], [1, 0, 0, 0, 0, 0, 0]⟩ := rfl
  have e6 : (rf.voted ⟨0, 1, 1, 0, [], 1, -1, 0, 0, List.replicate 7 false, List.replicate 7 0, List.replicate 7 0⟩ 0).1 = ⟨0, 1, 1, 0, [(1, [])], 2, 0, 1, 0, [true, false, false, false, false, false, false], [2, 1, 1, 1, 1, 1, 1], [1, 0, 0, 0, 0, 0, 0]⟩ := by
    have h1 : rf.voted ⟨0, 1, 1, 0, [], 1, -1, 0, 0, List.replicate 7 false, List.replicate 7 0, List.replicate 7 0⟩ 0 = rf.lead ⟨0, 1, 1, 0, [], 1, -1, 0, 0, [true, false, false, false, false, false, false], List.replicate 7 0, List.replicate 7 0⟩ := by
      unfold rf.voted
      exact (if_pos (by decide)).trans (if_pos e2)
    rw [h1]
    unfold rf.lead
    rw [e3]
    unfold rf.add
    rw [e4]
    exact e5
  unfold rf.tick
  dsimp only
  rw [if_neg (by decide), if_pos (by decide)]
  rw [stand_fst]
  exact (congrArg (fun x => (rf.voted x 0).1) e1).trans e6
/-- a guarded load of a whole struct, whose guard says yes -/
theorem wpList_load_want {P : Program} {ops : Array Oper} {rest : List Oper} {o : Oper} {a : Act} {w : World} {Q : Exit → Act → World → Prop} (hw : Region.wanted o (yielded ops a.tmps) = true) (ty : TypeId) (x : Operand) (ho : o.op = .load ty x)
    (g : Nat) (hx : a.eval x = .pointer (some ⟨g, 0, none⟩)) (t : TypeId) (cs : Array Value) (fr : Nat × Nat) (d : TypeDesc) (hg : w.heap[g]? = some (.cells cs t fr))
    (hu : P.underlying ty = some d) (hd : (match d with | .struct _ | .array _ _ => true | _ => false) = true) (hi : (P.info? ty).map (·.size) = some cs.size)
    (h : wpList P ops Q rest (a.put o.dst (.agg cs)) w) : wpList P ops Q (o :: rest) a w :=
  BigFrame.wpList_want hw fun _ hK => wp_load_row ty x ho g hx t cs fr d hg hu hd hi (hK _ _ h)
def shM : rf.Node := ⟨0, 1, 1, 0, [(1, []), (1, [120])], 2, 0, 2, 0, [true, false, false, false, false, false, false], [3, 1, 1, 1, 1, 1, 1], [2, 0, 0, 0, 0, 0, 0]⟩
theorem shown_propose : rf.propose ⟨0, 1, 1, 0, [(1, [])], 2, 0, 1, 0, [true, false, false, false, false, false, false], [2, 1, 1, 1, 1, 1, 1], [1, 0, 0, 0, 0, 0, 0]⟩ [120] = (shM, rf.puts shM, 2, 0) := by
  have e4 : rf.grown ⟨0, 1, 1, 0, [(1, [])], 2, 0, 1, 0, [true, false, false, false, false, false, false], [2, 1, 1, 1, 1, 1, 1], [1, 0, 0, 0, 0, 0, 0]⟩ [120] = ⟨0, 1, 1, 0, [(1, []), (1, [120])], 2, 0, 1, 0, [true, false, false, false, false, false, false], [3, 1, 1, 1, 1, 1, 1], [2, 0, 0, 0, 0, 0, 0]⟩ := rfl
  have e5 : rf.tally ⟨0, 1, 1, 0, [(1, []), (1, [120])], 2, 0, 1, 0, [true, false, false, false, false, false, false], [3, 1, 1, 1, 1, 1, 1], [2, 0, 0, 0, 0, 0, 0]⟩ = shM := rfl
  have e6 : rf.add ⟨0, 1, 1, 0, [(1, [])], 2, 0, 1, 0, [true, false, false, false, false, false, false], [2, 1, 1, 1, 1, 1, 1], [1, 0, 0, 0, 0, 0, 0]⟩ [120] = (shM, rf.puts shM) := by
    unfold rf.add
    rw [e4, e5]
  unfold rf.propose
  rw [if_neg (by decide), if_neg (by decide), e6]
  rfl
theorem shown_puts : (rf.puts shM).length = 0 := rfl
set_option maxHeartbeats 8000000 in
theorem shown17_any (w : World) : Calls Try.prog 6 #[] w fun e w' => e = .returned (.bool true) ∧ Below w.heap.size w w' := by
  obtain ⟨n0, hn0⟩ : ∃ n0, rf.new 0 1 0 (-1) [] = n0 := ⟨_, rfl⟩
  have hnew : ∀ w : World, Calls Try.prog 7 #[.int .i64 0, .int .i64 1, .agg #[.int .u64 0, .int .i64 (-1), .slice none 0 0]] w fun e w' => e = .returned (.tuple #[.agg (ndC n0 (.slice none 0 0)).toArray, .int .i64 0]) ∧ Below w.heap.size w w' := by
    intro w
    have h := new_any 0 1 0 (-1) none 0 0 [] w (by decide) (by decide) (by decide) (by decide)
    rw [hn0] at h
    exact h
  have HN := Lib.hid hnew
  have Hn0 := Lib.hid hn0
  have HOK0 : Hid (NOk n0) := Lib.hid (by rw [← hn0]; exact ⟨rfl, rfl, rfl, by intro x hx; simp [rf.new] at hx; omega, by intro x hx; simp [rf.new] at hx; omega⟩)
  have HS0 : Hid ((ndC n0 (.slice none 0 0)).toArray.size = 30) := Lib.hid (by rw [List.size_toArray, ndC_len HOK0.out])
  clear hnew hn0
  go_enter Try.func6, Try.ntmps6
  go_upto_if 14 with (first | (go_at_call 7; refine (HN.out _).mono ?_; rintro e w1 ⟨rfl, hb1⟩; have HZ : Hid (Blk (w1.alloc (.cells #[.int .i64 0, .int .i64 0, .int .u64 0, .int .i64 0, .slice none 0 0, .int .i64 0, .int .i64 0, .int .u64 0, .int .i64 0, .bool false, .bool false, .bool false, .bool false, .bool false, .bool false, .bool false, .int .u64 0, .int .u64 0, .int .u64 0, .int .u64 0, .int .u64 0, .int .u64 0, .int .u64 0, .int .u64 0, .int .u64 0, .int .u64 0, .int .u64 0, .int .u64 0, .int .u64 0, .int .u64 0] 33)) w1.heap.size (ndC zeroN nilV) 33) := Lib.hid (Blk.new w1 _ _)) | (refine wpList_store_row rfl 33 (.tmp 1) (.tmp 11) rfl w1.heap.size _ rfl rfl _ _ HZ.out (by rw [node_size, HS0.out]) (by rw [HS0.out]; rfl) (ndC_one rfl) ?_))
  have hx0 : NBox ((w1.alloc (.cells #[.int .i64 0, .int .i64 0, .int .u64 0, .int .i64 0, .slice none 0 0, .int .i64 0, .int .i64 0, .int .u64 0, .int .i64 0, .bool false, .bool false, .bool false, .bool false, .bool false, .bool false, .bool false, .int .u64 0, .int .u64 0, .int .u64 0, .int .u64 0, .int .u64 0, .int .u64 0, .int .u64 0, .int .u64 0, .int .u64 0, .int .u64 0, .int .u64 0, .int .u64 0, .int .u64 0, .int .u64 0] 33)).setRow w1.heap.size (ndC n0 (.slice none 0 0)).toArray) w1.heap.size n0 none 0 := by
    have hl : n0.log = [] := by rw [← Hn0.out]; rfl
    have h := NBox.fill (n := n0) (A := none) (c := 0) HZ.out (ndC_no zeroN none 0 0) (by rw [hl]; exact (EntsB.nil 0 _).1) HOK0.out
    rw [hl] at h
    exact h
  have hbz : Below w.heap.size w ((w1.alloc (.cells #[.int .i64 0, .int .i64 0, .int .u64 0, .int .i64 0, .slice none 0 0, .int .i64 0, .int .i64 0, .int .u64 0, .int .i64 0, .bool false, .bool false, .bool false, .bool false, .bool false, .bool false, .bool false, .int .u64 0, .int .u64 0, .int .u64 0, .int .u64 0, .int .u64 0, .int .u64 0, .int .u64 0, .int .u64 0, .int .u64 0, .int .u64 0, .int .u64 0, .int .u64 0, .int .u64 0, .int .u64 0] 33)).setRow w1.heap.size (ndC n0 (.slice none 0 0)).toArray) := (hb1.alloc hb1.size _).trans (below_setRow _ _ _ hb1.size)
  obtain ⟨bx, hbx⟩ : ∃ x, w1.heap.size = x := ⟨_, rfl⟩
  obtain ⟨W2, hW2⟩ : ∃ W, (w1.alloc (.cells #[.int .i64 0, .int .i64 0, .int .u64 0, .int .i64 0, .slice none 0 0, .int .i64 0, .int .i64 0, .int .u64 0, .int .i64 0, .bool false, .bool false, .bool false, .bool false, .bool false, .bool false, .bool false, .int .u64 0, .int .u64 0, .int .u64 0, .int .u64 0, .int .u64 0, .int .u64 0, .int .u64 0, .int .u64 0, .int .u64 0, .int .u64 0, .int .u64 0, .int .u64 0, .int .u64 0, .int .u64 0] 33)).setRow w1.heap.size (ndC n0 (.slice none 0 0)).toArray = W := ⟨_, rfl⟩
  rw [hW2] at hx0 hbz ⊢
  rw [hbx] at hx0 ⊢
  have HX0 := Lib.hid hx0
  have HBX : Hid (w.heap.size ≤ bx) := Lib.hid (by rw [← hbx]; exact hb1.size)
  have HB0 := Lib.hid hbz
  clear hx0 hbz hb1 HZ hbx hW2
  go_wp2_with fail
  have hg0 : Good n0 := by rw [← Hn0.out]; exact ⟨by decide, by decide, by decide, by decide, by decide⟩
  have HG0 := Lib.hid hg0
  clear hg0
  go_loopw [3] (fun i wr => ∃ (k : Nat) (A : Option Addr) (c : Nat), k ≤ 10 ∧ i = .int .i64 k ∧ NBox wr bx (ticks n0 k) A c ∧ Below w.heap.size w wr) (fun i _ => 10 - (intOf i).toNat)
  case atStart => exact ⟨0, none, 0, by omega, rfl, HX0.out, HB0.out⟩
  case round =>
    obtain ⟨k, A, c, hk, rfl, hx, hbel⟩ := hrel
    by_cases hlt : k < 10
    · obtain ⟨g1, g2, g3, g4⟩ := ticks_good HG0.out k
      have hlen : (ticks n0 k).log.length ≤ 9990 := by
        have : n0.log.length = 0 := by rw [← Hn0.out]; rfl
        omega
      have hcall := tick_any (ticks n0 k) A c wr hx.ents hx.ok g1.m0 g1.id0 g1.id7 g1.i0 (by have := g1.i1; omega) hlen
      have hxb : Blk wr bx (ndC (ticks n0 k) (.slice A (ticks n0 k).log.length c)) 33 := hx.blk
      have hs := size30 hx.ok (.slice A (ticks n0 k).log.length c)
      unfold ndV at hcall
      obtain ⟨N, hN⟩ : ∃ N, ticks n0 k = N := ⟨_, rfl⟩
      have hN2 : (rf.tick N).1 = ticks n0 (k + 1) := by rw [← hN]; rfl
      rw [hN] at hcall hxb hs hx
      obtain ⟨ev, hev⟩ : ∃ ev, Value.slice A N.log.length c = ev := ⟨_, rfl⟩
      have hno := ndC_no N A N.log.length c
      rw [hev] at hcall hxb hs hno
      have HCL := Lib.hid hcall
      have HXB := Lib.hid hxb
      have HSN := Lib.hid hs
      have HNO := Lib.hid hno
      have HN2 := Lib.hid hN2
      have HBE := Lib.hid hbel
      have hbxlt := hxb.lt
      have hbw : w.heap.size ≤ bx := HBX.out
      clear hcall hxb hs hno hN hN2 hev hx hbel g1 g2 g3 g4 hlen
      go_wp2_with (first | (refine wpList_load_row rfl 33 _ rfl bx rfl _ _ _ _ HXB.out Try.underlying33 rfl (by rw [node_size, HSN.out]) ?_) | (go_at_call 8; refine HCL.out.mono ?_; rintro e w6 ⟨nv, sv, rfl, A6, c6, B6, d6, rfl, rfl, he6, hs6, ok6, hb6⟩; rw [HN2.out] at he6 ok6 ⊢; unfold ndV; have HB6 := Lib.hid (HXB.out.below hb6); have HS6 := Lib.hid (size30 ok6 (.slice A6 (ticks n0 (k + 1)).log.length c6))) | (refine wpList_store_row rfl 33 (.tmp 1) (.tmp 22) rfl bx _ rfl rfl _ _ HB6.out (by rw [node_size, HS6.out]) (by rw [HS6.out, HSN.out]) (ndC_one rfl) ?_))
      have hfill := NBox.fill (n := ticks n0 (k + 1)) (A := A6) (c := c6) HB6.out HNO.out he6.1 ok6
      have hb7 : Below w.heap.size w (w6.setRow bx (ndC (ticks n0 (k + 1)) (.slice A6 (ticks n0 (k + 1)).log.length c6)).toArray) := (HBE.out.trans (hb6.mono HBE.out.size)).trans (below_setRow _ _ _ hbw)
      have HF := Lib.hid hfill
      have HB7 := Lib.hid hb7
      clear hfill hb7 he6 hs6 ok6 hb6
      go_wp2_with fail
      go_roundw
      case rel => exact ⟨k + 1, A6, c6, by omega, by go_num, HF.out, HB7.out⟩
      case measure => simp [intOf]; omega
    · obtain rfl : k = 10 := by omega
      have hlen : (ticks n0 10).log.length ≤ 9990 := by rw [← Hn0.out, shown_node]; decide
      obtain ⟨N, hN⟩ : ∃ N, ticks n0 10 = N := ⟨_, rfl⟩
      have hNe : N = ⟨0, 1, 1, 0, [(1, [])], 2, 0, 1, 0, [true, false, false, false, false, false, false], [2, 1, 1, 1, 1, 1, 1], [1, 0, 0, 0, 0, 0, 0]⟩ := by rw [← hN, ← Hn0.out]; exact shown_node
      have HNe := Lib.hid hNe
      clear hNe
      have f1 : N.role = 2 := by rw [HNe.out]
      have f2 : N.commit = 1 := by rw [HNe.out]
      have f3 : N.id = 0 := by rw [HNe.out]
      have f4 : 0 ≤ N.many := by rw [HNe.out]; decide
      have p1 : (rf.propose N [120]).2.2.1 = 2 := by rw [HNe.out, shown_propose]
      have p2 : (rf.propose N [120]).2.2.2 = 0 := by rw [HNe.out, shown_propose]
      have p3 : (rf.propose N [120]).2.1.length = 0 := by rw [HNe.out, shown_propose]; exact shown_puts
      have p4 : (rf.propose N [120]).1.commit = 2 := by rw [HNe.out, shown_propose]; rfl
      rw [hN] at hx hlen
      have hcall := propose_any N [120] A c wr hx.ents hx.ok f4 hlen
      rw [p1, p2] at hcall
      have hwait := fun W => wait_any N (.slice A N.log.length c) W (by rw [f3]; decide) (by rw [f3]; decide)
      rw [f3] at hwait
      unfold ndV at hcall hwait
      have hxb := hx.blk
      have hs := size30 hx.ok (.slice A N.log.length c)
      obtain ⟨ev, hev⟩ : ∃ ev, Value.slice A N.log.length c = ev := ⟨_, rfl⟩
      rw [hev] at hcall hxb hs hwait
      have HCL : Hid (Calls Try.prog 14 #[.agg (ndC N ev).toArray, .string ⟨#[120]⟩] wr fun e w' => ∃ nv sv, e = .returned (.tuple #[nv, sv, .int .u64 ((2 : Nat) : Int), .int .i64 0]) ∧ Out wr (rf.propose N [120]).1 (rf.propose N [120]).2.1 w' nv sv) := Lib.hid hcall
      have HWT := Lib.hid hwait
      have HXB := Lib.hid hxb
      have HSN := Lib.hid hs
      have HBE := Lib.hid hbel
      have HP3 := Lib.hid p3
      have HP4 := Lib.hid p4
      have HF1 := Lib.hid f1
      have HF2 := Lib.hid f2
      clear hcall hwait hxb hs hbel hev hx hlen f1 f2 f3 f4 p1 p2 p3 p4 hN
      go_upto_region 9 with (first | (refine wpList_load_row rfl 33 _ rfl bx rfl _ _ _ _ HXB.out Try.underlying33 rfl (by rw [node_size, HSN.out]) ?_) | (go_at_call 14; refine HCL.out.mono ?_; rintro e w6 ⟨nv, sv, rfl, A6, c6, B6, d6, rfl, rfl, he6, hs6, ok6, hb6⟩; unfold ndV; rw [HP3.out]; have HZ6 : Hid (Blk (w6.alloc (.cells #[.int .i64 0, .int .i64 0, .int .u64 0, .int .i64 0, .slice none 0 0, .int .i64 0, .int .i64 0, .int .u64 0, .int .i64 0, .bool false, .bool false, .bool false, .bool false, .bool false, .bool false, .bool false, .int .u64 0, .int .u64 0, .int .u64 0, .int .u64 0, .int .u64 0, .int .u64 0, .int .u64 0, .int .u64 0, .int .u64 0, .int .u64 0, .int .u64 0, .int .u64 0, .int .u64 0, .int .u64 0] 33)) w6.heap.size (ndC zeroN nilV) 33) := Lib.hid (Blk.new w6 _ _); have HS6 := Lib.hid (size30 ok6 (.slice A6 (rf.propose N [120]).1.log.length c6))) | (refine wpList_store_row rfl 33 (.tmp 4) (.tmp 27) rfl w6.heap.size _ rfl rfl _ _ HZ6.out (by rw [node_size, HS6.out]) (by rw [HS6.out]; rfl) (ndC_one rfl) ?_))
      have hne : bx ≠ w6.heap.size := by
        have h1 := HXB.out.lt
        have h2 := hb6.size
        omega
      have kb : Blk ((w6.alloc (.cells #[.int .i64 0, .int .i64 0, .int .u64 0, .int .i64 0, .slice none 0 0, .int .i64 0, .int .i64 0, .int .u64 0, .int .i64 0, .bool false, .bool false, .bool false, .bool false, .bool false, .bool false, .bool false, .int .u64 0, .int .u64 0, .int .u64 0, .int .u64 0, .int .u64 0, .int .u64 0, .int .u64 0, .int .u64 0, .int .u64 0, .int .u64 0, .int .u64 0, .int .u64 0, .int .u64 0, .int .u64 0] 33)).setRow w6.heap.size (ndC (rf.propose N [120]).1 (.slice A6 (rf.propose N [120]).1.log.length c6)).toArray) bx (ndC N ev) 33 := (setRow_apart _ _ _ bx hne).trans ((HXB.out.below hb6).alloc _)
      have km := HZ6.out.row (ndC (rf.propose N [120]).1 (.slice A6 (rf.propose N [120]).1.log.length c6))
      have hb9 : Below w.heap.size w ((w6.alloc (.cells #[.int .i64 0, .int .i64 0, .int .u64 0, .int .i64 0, .slice none 0 0, .int .i64 0, .int .i64 0, .int .u64 0, .int .i64 0, .bool false, .bool false, .bool false, .bool false, .bool false, .bool false, .bool false, .int .u64 0, .int .u64 0, .int .u64 0, .int .u64 0, .int .u64 0, .int .u64 0, .int .u64 0, .int .u64 0, .int .u64 0, .int .u64 0, .int .u64 0, .int .u64 0, .int .u64 0, .int .u64 0] 33)).setRow w6.heap.size (ndC (rf.propose N [120]).1 (.slice A6 (rf.propose N [120]).1.log.length c6)).toArray) := by
        have h1 := HBE.out.trans (hb6.mono HBE.out.size)
        exact (h1.alloc h1.size _).trans (below_setRow _ _ _ h1.size)
      obtain ⟨W9, hW9⟩ : ∃ W9, (w6.alloc (.cells #[.int .i64 0, .int .i64 0, .int .u64 0, .int .i64 0, .slice none 0 0, .int .i64 0, .int .i64 0, .int .u64 0, .int .i64 0, .bool false, .bool false, .bool false, .bool false, .bool false, .bool false, .bool false, .int .u64 0, .int .u64 0, .int .u64 0, .int .u64 0, .int .u64 0, .int .u64 0, .int .u64 0, .int .u64 0, .int .u64 0, .int .u64 0, .int .u64 0, .int .u64 0, .int .u64 0, .int .u64 0] 33)).setRow w6.heap.size (ndC (rf.propose N [120]).1 (.slice A6 (rf.propose N [120]).1.log.length c6)).toArray = W9 := ⟨_, rfl⟩
      rw [hW9] at kb km hb9 ⊢
      have c5 := kb.cell 5 _ rfl
      rw [HF1.out] at c5
      have c7 := kb.cell 7 _ rfl
      rw [HF2.out] at c7
      have m7 := km.cell 7 _ rfl
      rw [HP4.out] at m7
      have HKB := Lib.hid kb
      have HB9 := Lib.hid hb9
      clear kb km hb9 hW9 hne hb6 he6 hs6 ok6 HZ6
      go_wp2_with (first | (refine wpList_load_want (by rfl) 33 _ rfl bx rfl _ _ _ _ HKB.out Try.underlying33 rfl (by rw [node_size, HSN.out]) ?_) | (go_at_call 15; refine (HWT.out _).mono ?_; rintro e w8 ⟨rfl, hb8⟩))
      go_ret
      exact ⟨rfl, HB9.out.trans (hb8.mono HB9.out.size)⟩
end Go.Proofs.Ytkoidphhlfjlhaa
