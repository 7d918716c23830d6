/- law17's its, msg: walked. -/
import Derived.Test.YtkoidphhlfjlhaaRfIts17
namespace Go.Proofs.Ytkoidphhlfjlhaa
open Go Go.RowKit Go.Deep
set_option maxRecDepth 100000

theorem yieldsIf_build {P : Program} {ops : Array Oper} {S : World → Prop} {op : Oper} {a : Act} (hw : Region.wanted op (yielded ops a.tmps) = true) (t : TypeId) (parts : Array (Nat × Operand)) (ho : op.op = .build t parts) (l : List (Nat × Value)) (cells : Array Value)
    (hp : (parts.map fun (i, x) => (i, a.eval x)).toList = l) (hb : P.built t l = some cells) : YieldsIf P ops S op (.agg cells) a :=
  .inl ⟨hw, fun w _ => by
    unfold execOp
    subst hp
    simp only [ho, Sem.run_bind, run_build w t _ cells hb, Result.andThen_ok, Sem.run_pure]⟩
def bV (l : List Bool) : List Value := l.map fun b => .bool b
def nV (l : List Nat) : List Value := l.map fun (k : Nat) => .int .u64 (k : Int)
theorem built_its {n : rf.Node} (h : NOk n) (u : Value) : Try.prog.built 44 [(0, .int .i64 n.id), (1, .int .i64 n.many), (2, .agg #[.int .u64 (n.term : Int), .int .i64 n.vote, u]), (3, .int .i64 n.role), (4, .int .i64 n.lead), (5, .int .u64 (n.commit : Int)), (6, .int .i64 n.idle), (7, .agg (bV n.votes).toArray), (8, .agg (nV n.next).toArray), (9, .agg (nV n.mat).toArray)] = some (ndC n u).toArray := by
  obtain ⟨h1, h2, h3, _, _⟩ := h
  obtain ⟨a, b, c, d, e, f, g, i, j, v, x, m⟩ := n
  dsimp only at h1 h2 h3
  rcases v with _ | ⟨v0, _ | ⟨v1, _ | ⟨v2, _ | ⟨v3, _ | ⟨v4, _ | ⟨v5, _ | ⟨v6, _ | ⟨v7, v⟩⟩⟩⟩⟩⟩⟩⟩ <;> simp at h1
  rcases x with _ | ⟨x0, _ | ⟨x1, _ | ⟨x2, _ | ⟨x3, _ | ⟨x4, _ | ⟨x5, _ | ⟨x6, _ | ⟨x7, x⟩⟩⟩⟩⟩⟩⟩⟩ <;> simp at h2
  rcases m with _ | ⟨m0, _ | ⟨m1, _ | ⟨m2, _ | ⟨m3, _ | ⟨m4, _ | ⟨m5, _ | ⟨m6, _ | ⟨m7, m⟩⟩⟩⟩⟩⟩⟩⟩ <;> simp at h3
  kernel_rfl
theorem ndC_ranges {w : World} {b : Nat} {n : rf.Node} {ev : Value} (h : w.rangeAt b 0 (ndC n ev)) (ok : NOk n) : w.rangeAt b 9 (bV n.votes) ∧ w.rangeAt b 16 (nV n.next) ∧ w.rangeAt b 23 (nV n.mat) := by
  have e : ndC n ev = [.int .i64 n.id, .int .i64 n.many, .int .u64 (n.term : Int), .int .i64 n.vote, ev, .int .i64 n.role, .int .i64 n.lead, .int .u64 (n.commit : Int), .int .i64 n.idle] ++ (bV n.votes ++ (nV n.next ++ nV n.mat)) := rfl
  have l1 : (bV n.votes).length = 7 := by simp [bV, ok.v7]
  have l2 : (nV n.next).length = 7 := by simp [nV, ok.n7]
  refine ⟨fun j v hv => ?_, fun j v hv => ?_, fun j v hv => ?_⟩
  · have hj : j < (bV n.votes).length := (List.getElem?_eq_some_iff.1 hv).1
    have := h (9 + j) v (by rw [e, List.getElem?_append_right (by simp), show 9 + j - _ = j by simp, List.getElem?_append_left hj]; exact hv)
    rwa [Nat.zero_add] at this
  · have hj : j < (nV n.next).length := (List.getElem?_eq_some_iff.1 hv).1
    have := h (16 + j) v (by rw [e, List.getElem?_append_right (by simp; omega), List.getElem?_append_right (by simp [l1]; omega), List.getElem?_append_left (by simp [l1]; omega), ← hv]; congr 1; simp [l1]; omega)
    rwa [Nat.zero_add] at this
  · have := h (23 + j) v (by rw [e, List.getElem?_append_right (by simp; omega), List.getElem?_append_right (by simp [l1]; omega), List.getElem?_append_right (by simp [l1, l2]; omega), ← hv]; congr 1; simp [l1, l2]; omega)
    rwa [Nat.zero_add] at this
theorem rnode_size : (Try.prog.info? 44).map (·.size) = some 30 := by kernel_rfl
/-- entries lie no otherwise behind a store into a whole box that holds no text -/
theorem Ents.farRow {w : World} {v : Value} {ls : List rl.Ent} {g : Nat} {vs us : List Value} {t : TypeId} (h : Ents w v ls) (hb : Blk w g vs t) (hs : ∀ u ∈ vs, ∀ s, u ≠ .string s) : Ents (w.setRow g us.toArray) v ls := by
  obtain ⟨A, c, rfl, h1, h2, h3⟩ := h
  refine ⟨A, c, rfl, h1, h2, fun h0 => ?_⟩
  obtain ⟨b, o, rfl, hA⟩ := h3 h0
  have hne : b ≠ g := by
    rintro rfl
    have hc := (hA 0 h0).2
    rw [cell_of_row w b _ _ _ (0, 0) hb] at hc
    have hm : (Value.string (crcm.mk (ls.getD 0 rl.e0).2)) ∈ vs := List.mem_of_getElem? (by simpa using hc)
    exact hs _ hm _ rfl
  have e := setRow_apart w g us.toArray b hne
  refine ⟨b, o, rfl, fun k hk => ?_⟩
  rw [World.cell?_of_block (w := w) (w' := w.setRow g us.toArray) (a := ⟨b, o + k * 2, none⟩) e, World.cell?_of_block (w := w) (w' := w.setRow g us.toArray) (a := ⟨b, o + k * 2 + 1, none⟩) e]
  exact hA k hk
theorem owns_setRow {w : World} {base g size n : Nat} {e t : TypeId} {v : Value} {xs vs us : List Value} (h : w.ownsRow base e size v n xs) (hb : Blk w g vs t) (ht : t ≠ e) : (w.setRow g us.toArray).ownsRow base e size v n xs := by
  refine ⟨h.1, ?_⟩
  rcases h.2 with h2 | ⟨k, cap, cur, h2, h3, hh, h4⟩
  · exact .inl h2
  · refine .inr ⟨k, cap, cur, h2, h3, (setRow_apart w g _ k (fun e2 => ?_)).trans hh, h4⟩
    subst e2
    unfold Blk at hb
    rw [hb] at hh
    injection hh with hh
    injection hh with _ h6 _
    exact ht h6
set_option maxHeartbeats 8000000 in
theorem its_any (n : rf.Node) (A : Option Addr) (c : Nat) (w : World) (hv : Ents w (.slice A n.log.length c) n.log) (ok : NOk n) (hl : n.log.length ≤ 10000) :
    Calls Try.prog 9 #[ndV n (.slice A n.log.length c)] w fun e w' => ∃ A2 c2, e = .returned (ndV n (.slice A2 n.log.length c2)) ∧ Ents w' (.slice A2 n.log.length c2) n.log ∧ Below w.heap.size w w' := by
  obtain ⟨L, hL⟩ : ∃ L, n.log.length = L := ⟨_, rfl⟩
  rw [hL] at hv ⊢
  obtain ⟨X, b, hX, hb, hbX, kb⟩ := box_blk w (ndC n (.slice A L c)) 33
  obtain ⟨Y, r, hY, hr, hbY, kr⟩ := box_blk X (ndC zeroN nilV) 44
  obtain rfl : r = b + 1 := by rw [← hr, ← hX, ← hb]; simp
  have kbY := kb.below hbY
  have hbXY := hbX.trans (hbY.mono hbX.size)
  have hvY := hv.below hbXY
  have HX := Lib.hid hX
  have HY : Hid (X.alloc (.cells #[.int .i64 0, .int .i64 0, .int .u64 0, .int .i64 0, .slice none 0 0, .int .i64 0, .int .i64 0, .int .u64 0, .int .i64 0, .bool false, .bool false, .bool false, .bool false, .bool false, .bool false, .bool false, .int .u64 0, .int .u64 0, .int .u64 0, .int .u64 0, .int .u64 0, .int .u64 0, .int .u64 0, .int .u64 0, .int .u64 0, .int .u64 0, .int .u64 0, .int .u64 0, .int .u64 0, .int .u64 0] 44) = Y) := Lib.hid hY
  have HKR := Lib.hid kr
  have HXY := Lib.hid hbXY
  have HV := Lib.hid hvY
  have HL := Lib.hid hL
  have Hl := Lib.hid hl
  have HOK := Lib.hid ok
  have hge : w.heap.size ≤ b + 1 := by omega
  have HGE := Lib.hid hge
  have hall : ∀ W, Blk W b (ndC n (.slice A L c)) 33 → (W.cell? ⟨b, 0, none⟩ = some (.int .i64 n.id) ∧ W.cell? ⟨b, 1, none⟩ = some (.int .i64 n.many) ∧ W.cell? ⟨b, 2, none⟩ = some (.int .u64 (n.term : Int)) ∧ W.cell? ⟨b, 3, none⟩ = some (.int .i64 n.vote) ∧ W.cell? ⟨b, 4, none⟩ = some (.slice A L c) ∧ W.cell? ⟨b, 5, none⟩ = some (.int .i64 n.role) ∧ W.cell? ⟨b, 6, none⟩ = some (.int .i64 n.lead) ∧ W.cell? ⟨b, 7, none⟩ = some (.int .u64 (n.commit : Int)) ∧ W.cell? ⟨b, 8, none⟩ = some (.int .i64 n.idle) ∧ W.rangeAt b 9 (bV n.votes) ∧ W.rangeAt b 16 (nV n.next) ∧ W.rangeAt b 23 (nV n.mat)) := fun W k => by
    have hr : W.rangeAt b 0 (ndC n (.slice A L c)) := fun j v hv => by rw [Nat.zero_add]; exact k.cell j v hv
    obtain ⟨r1, r2, r3⟩ := ndC_ranges hr ok
    exact ⟨k.cell 0 _ rfl, k.cell 1 _ rfl, k.cell 2 _ rfl, k.cell 3 _ rfl, k.cell 4 _ rfl, k.cell 5 _ rfl, k.cell 6 _ rfl, k.cell 7 _ rfl, k.cell 8 _ rfl, r1, r2, r3⟩
  have MK : Hid (∀ w', Below Y.heap.size Y w' → (w'.cell? ⟨b, 0, none⟩ = some (.int .i64 n.id) ∧ w'.cell? ⟨b, 1, none⟩ = some (.int .i64 n.many) ∧ w'.cell? ⟨b, 2, none⟩ = some (.int .u64 (n.term : Int)) ∧ w'.cell? ⟨b, 3, none⟩ = some (.int .i64 n.vote) ∧ w'.cell? ⟨b, 4, none⟩ = some (.slice A L c) ∧ w'.cell? ⟨b, 5, none⟩ = some (.int .i64 n.role) ∧ w'.cell? ⟨b, 6, none⟩ = some (.int .i64 n.lead) ∧ w'.cell? ⟨b, 7, none⟩ = some (.int .u64 (n.commit : Int)) ∧ w'.cell? ⟨b, 8, none⟩ = some (.int .i64 n.idle) ∧ w'.rangeAt b 9 (bV n.votes) ∧ w'.rangeAt b 16 (nV n.next) ∧ w'.rangeAt b 23 (nV n.mat))) := Lib.hid (fun w' h => hall _ (kbY.below h))
  have MK2 : Hid (∀ w' vs, Below Y.heap.size Y w' → ((w'.setRow (b + 1) vs).cell? ⟨b, 0, none⟩ = some (.int .i64 n.id) ∧ (w'.setRow (b + 1) vs).cell? ⟨b, 1, none⟩ = some (.int .i64 n.many) ∧ (w'.setRow (b + 1) vs).cell? ⟨b, 2, none⟩ = some (.int .u64 (n.term : Int)) ∧ (w'.setRow (b + 1) vs).cell? ⟨b, 3, none⟩ = some (.int .i64 n.vote) ∧ (w'.setRow (b + 1) vs).cell? ⟨b, 4, none⟩ = some (.slice A L c) ∧ (w'.setRow (b + 1) vs).cell? ⟨b, 5, none⟩ = some (.int .i64 n.role) ∧ (w'.setRow (b + 1) vs).cell? ⟨b, 6, none⟩ = some (.int .i64 n.lead) ∧ (w'.setRow (b + 1) vs).cell? ⟨b, 7, none⟩ = some (.int .u64 (n.commit : Int)) ∧ (w'.setRow (b + 1) vs).cell? ⟨b, 8, none⟩ = some (.int .i64 n.idle) ∧ (w'.setRow (b + 1) vs).rangeAt b 9 (bV n.votes) ∧ (w'.setRow (b + 1) vs).rangeAt b 16 (nV n.next) ∧ (w'.setRow (b + 1) vs).rangeAt b 23 (nV n.mat))) := Lib.hid (fun w' vs h => hall _ ((setRow_apart w' (b + 1) vs b (by omega)).trans (kbY.below h)))
  have hst : ∀ W, Below Y.heap.size Y W → Calls Try.prog 19 #[.agg #[.int .u64 (n.term : Int), .int .i64 n.vote, .slice A L c]] W fun e w' => ∃ A2 c2, e = .returned (.agg #[.int .u64 (n.term : Int), .int .i64 n.vote, .slice A2 L c2]) ∧ Ents w' (.slice A2 L c2) n.log ∧ Below W.heap.size W w' := by
    intro W hb
    have h := state_any n.term n.vote A c n.log W (by rw [hL]; exact hvY.below hb) hl
    unfold stV at h
    rw [hL] at h
    exact h
  have HST := Lib.hid hst
  have hW : Below Y.heap.size Y Y.drew := below_drewN (Below.refl _ Y) 1
  have HA7 : Hid ((Try.prog.info? 30).map (·.size) = some (bV n.votes).length) := Lib.hid (by rw [show (bV n.votes).length = 7 by simp [bV, ok.v7]]; kernel_rfl)
  have HB7 : Hid ((Try.prog.info? 31).map (·.size) = some (nV n.next).length) := Lib.hid (by rw [show (nV n.next).length = 7 by simp [nV, ok.n7]]; kernel_rfl)
  have HC7 : Hid ((Try.prog.info? 31).map (·.size) = some (nV n.mat).length) := Lib.hid (by rw [show (nV n.mat).length = 7 by simp [nV, ok.m7]]; kernel_rfl)
  clear hX hY kb kr kbY hbX hbY hbXY hv hvY hL hl hge hall ok hst
  unfold ndV
  go_enter Try.func9, Try.ntmps9
  go_upto_region 1 with fail
  rw [HX.out, HY.out]
  refine wp_region_held_drew (S := fun w' => (w'.cell? ⟨b, 0, none⟩ = some (.int .i64 n.id) ∧ w'.cell? ⟨b, 1, none⟩ = some (.int .i64 n.many) ∧ w'.cell? ⟨b, 2, none⟩ = some (.int .u64 (n.term : Int)) ∧ w'.cell? ⟨b, 3, none⟩ = some (.int .i64 n.vote) ∧ w'.cell? ⟨b, 4, none⟩ = some (.slice A L c) ∧ w'.cell? ⟨b, 5, none⟩ = some (.int .i64 n.role) ∧ w'.cell? ⟨b, 6, none⟩ = some (.int .i64 n.lead) ∧ w'.cell? ⟨b, 7, none⟩ = some (.int .u64 (n.commit : Int)) ∧ w'.cell? ⟨b, 8, none⟩ = some (.int .i64 n.idle) ∧ w'.rangeAt b 9 (bV n.votes) ∧ w'.rangeAt b 16 (nV n.next) ∧ w'.rangeAt b 23 (nV n.mat))) (by kernel_rfl) (MK.out _ hW) (fun hHeld => ?_)
  (refine wpAnyH_take (i := 0) (v := ?_) (opsAt rfl) (by kernel_rfl) (by kernel_rfl) (by kernel_rfl) (fun _ _ _ h => h) (Or.inl ⟨by rfl, ?_⟩) (by assumption) ?_; rotate_left; focus (intro w hSw; (try dsimp only at hSw); go_simp; (try with_reducible rfl); done))
  (try simp only [Act.put, List.setIfInBounds_toArray, List.set_cons_zero, List.set_cons_succ])
  (refine wpAnyH_take (i := 1) (v := ?_) (opsAt rfl) (by kernel_rfl) (by kernel_rfl) (by kernel_rfl) (fun _ _ _ h => h) (Or.inl ⟨by rfl, ?_⟩) (by assumption) ?_; rotate_left; focus (intro w hSw; (try dsimp only at hSw); go_simp; (try with_reducible rfl); done))
  (try simp only [Act.put, List.setIfInBounds_toArray, List.set_cons_zero, List.set_cons_succ])
  (refine wpAnyH_take (i := 2) (v := ?_) (opsAt rfl) (by kernel_rfl) (by kernel_rfl) (by kernel_rfl) (fun _ _ _ h => h) (Or.inl ⟨by rfl, ?_⟩) (by assumption) ?_; rotate_left; focus (intro w hSw; (try dsimp only at hSw); go_simp; (try with_reducible rfl); done))
  (try simp only [Act.put, List.setIfInBounds_toArray, List.set_cons_zero, List.set_cons_succ])
  (refine wpAnyH_take (i := 3) (v := ?_) (opsAt rfl) (by kernel_rfl) (by kernel_rfl) (by kernel_rfl) (fun _ _ _ h => h) (Or.inl ⟨by rfl, ?_⟩) (by assumption) ?_; rotate_left; focus (intro w hSw; (try dsimp only at hSw); go_simp; (try with_reducible rfl); done))
  (try simp only [Act.put, List.setIfInBounds_toArray, List.set_cons_zero, List.set_cons_succ])
  (refine wpAnyH_take (i := 4) (v := ?_) (opsAt rfl) (by kernel_rfl) (by kernel_rfl) (by kernel_rfl) (fun _ _ _ h => h) (Or.inl ⟨by rfl, ?_⟩) (by assumption) ?_; rotate_left; focus (intro w hSw; (try dsimp only at hSw); go_simp; (try with_reducible rfl); done))
  (try simp only [Act.put, List.setIfInBounds_toArray, List.set_cons_zero, List.set_cons_succ])
  (refine wpAnyH_take (i := 5) (v := ?_) (opsAt rfl) (by kernel_rfl) (by kernel_rfl) (by kernel_rfl) (fun _ _ _ h => h) (Or.inl ⟨by rfl, ?_⟩) (by assumption) ?_; rotate_left; focus (intro w hSw; (try dsimp only at hSw); go_simp; (try with_reducible rfl); done))
  (try simp only [Act.put, List.setIfInBounds_toArray, List.set_cons_zero, List.set_cons_succ])
  (refine wpAnyH_take (i := 7) (v := ?_) (opsAt rfl) (by kernel_rfl) (by kernel_rfl) (by kernel_rfl) (fun _ _ _ h => h) (Or.inl ⟨by rfl, ?_⟩) (by assumption) ?_; rotate_left; focus (intro w hSw; (try dsimp only at hSw); go_simp; (try with_reducible rfl); done))
  (try simp only [Act.put, List.setIfInBounds_toArray, List.set_cons_zero, List.set_cons_succ])
  (refine wpAnyH_take (i := 8) (v := ?_) (opsAt rfl) (by kernel_rfl) (by kernel_rfl) (by kernel_rfl) (fun _ _ _ h => h) (Or.inl ⟨by rfl, ?_⟩) (by assumption) ?_; rotate_left; focus (intro w hSw; (try dsimp only at hSw); go_simp; (try with_reducible rfl); done))
  (try simp only [Act.put, List.setIfInBounds_toArray, List.set_cons_zero, List.set_cons_succ])
  (refine wpAnyH_take (i := 9) (v := ?_) (opsAt rfl) (by kernel_rfl) (by kernel_rfl) (by kernel_rfl) (fun _ _ _ h => h) (Or.inl ⟨by rfl, ?_⟩) (by assumption) ?_; rotate_left; focus (intro w hSw; (try dsimp only at hSw); go_simp; (try with_reducible rfl); done))
  (try simp only [Act.put, List.setIfInBounds_toArray, List.set_cons_zero, List.set_cons_succ])
  (refine wpAnyH_take (i := 10) (v := ?_) (opsAt rfl) (by kernel_rfl) (by kernel_rfl) (by kernel_rfl) (fun _ _ _ h => h) (Or.inl ⟨by rfl, ?_⟩) (by assumption) ?_; rotate_left; focus (intro w hSw; (try dsimp only at hSw); go_simp; (try with_reducible rfl); done))
  (try simp only [Act.put, List.setIfInBounds_toArray, List.set_cons_zero, List.set_cons_succ])
  (refine wpAnyH_take (i := 11) (v := ?_) (opsAt rfl) (by kernel_rfl) (by kernel_rfl) (by kernel_rfl) (fun _ _ _ h => h) (Or.inl ⟨by rfl, ?_⟩) (by assumption) ?_; rotate_left; focus (intro w hSw; (try dsimp only at hSw); go_simp; (try with_reducible rfl); done))
  (try simp only [Act.put, List.setIfInBounds_toArray, List.set_cons_zero, List.set_cons_succ])
  (refine wpAnyH_take (i := 12) (v := ?_) (opsAt rfl) (by kernel_rfl) (by kernel_rfl) (by kernel_rfl) (fun _ _ _ h => h) (Or.inl ⟨by rfl, ?_⟩) (by assumption) ?_; rotate_left; focus (intro w hSw; (try dsimp only at hSw); go_simp; (try with_reducible rfl); done))
  (try simp only [Act.put, List.setIfInBounds_toArray, List.set_cons_zero, List.set_cons_succ])
  (refine wpAnyH_take (i := 13) (v := ?_) (opsAt rfl) (by kernel_rfl) (by kernel_rfl) (by kernel_rfl) (fun _ _ _ h => h) (Or.inl ⟨by rfl, ?_⟩) (by assumption) ?_; rotate_left; focus (intro w hSw; (try dsimp only at hSw); go_simp; (try with_reducible rfl); done))
  (try simp only [Act.put, List.setIfInBounds_toArray, List.set_cons_zero, List.set_cons_succ])
  (refine wpAnyH_take (i := 14) (v := ?_) (opsAt rfl) (by kernel_rfl) (by kernel_rfl) (by kernel_rfl) (fun _ _ _ h => h) (Or.inl ⟨by rfl, ?_⟩) (by assumption) ?_; rotate_left; focus (intro w hSw; (try dsimp only at hSw); go_simp; (try with_reducible rfl); done))
  (try simp only [Act.put, List.setIfInBounds_toArray, List.set_cons_zero, List.set_cons_succ])
  (refine wpAnyH_take (i := 15) (v := ?_) (opsAt rfl) (by kernel_rfl) (by kernel_rfl) (by kernel_rfl) (fun _ _ _ h => h) (Or.inl ⟨by rfl, ?_⟩) (by assumption) ?_; rotate_left; focus (intro w hSw; (try dsimp only at hSw); go_simp; (try with_reducible rfl); done))
  (try simp only [Act.put, List.setIfInBounds_toArray, List.set_cons_zero, List.set_cons_succ])
  refine wpAnyH_take (i := 16) (opsAt rfl) (by kernel_rfl) (by kernel_rfl) (by kernel_rfl) (fun _ _ _ h => h) (yieldsIf_load_mid (by rfl) _ _ rfl _ _ rfl _ _ (fun _ h => h.2.2.2.2.2.2.2.2.2.1) Try.underlying30 rfl HA7.out) (by assumption) ?_
  (try simp only [Act.put, List.setIfInBounds_toArray, List.set_cons_zero, List.set_cons_succ])
  (refine wpAnyH_take (i := 17) (v := ?_) (opsAt rfl) (by kernel_rfl) (by kernel_rfl) (by kernel_rfl) (fun _ _ _ h => h) (Or.inl ⟨by rfl, ?_⟩) (by assumption) ?_; rotate_left; focus (intro w hSw; (try dsimp only at hSw); go_simp; (try with_reducible rfl); done))
  (try simp only [Act.put, List.setIfInBounds_toArray, List.set_cons_zero, List.set_cons_succ])
  refine wpAnyH_take (i := 18) (opsAt rfl) (by kernel_rfl) (by kernel_rfl) (by kernel_rfl) (fun _ _ _ h => h) (yieldsIf_load_mid (by rfl) _ _ rfl _ _ rfl _ _ (fun _ h => h.2.2.2.2.2.2.2.2.2.2.1) Try.underlying31 rfl HB7.out) (by assumption) ?_
  (try simp only [Act.put, List.setIfInBounds_toArray, List.set_cons_zero, List.set_cons_succ])
  (refine wpAnyH_take (i := 19) (v := ?_) (opsAt rfl) (by kernel_rfl) (by kernel_rfl) (by kernel_rfl) (fun _ _ _ h => h) (Or.inl ⟨by rfl, ?_⟩) (by assumption) ?_; rotate_left; focus (intro w hSw; (try dsimp only at hSw); go_simp; (try with_reducible rfl); done))
  (try simp only [Act.put, List.setIfInBounds_toArray, List.set_cons_zero, List.set_cons_succ])
  refine wpAnyH_take (i := 20) (opsAt rfl) (by kernel_rfl) (by kernel_rfl) (by kernel_rfl) (fun _ _ _ h => h) (yieldsIf_load_mid (by rfl) _ _ rfl _ _ rfl _ _ (fun _ h => h.2.2.2.2.2.2.2.2.2.2.2) Try.underlying31 rfl HC7.out) (by assumption) ?_
  (try simp only [Act.put, List.setIfInBounds_toArray, List.set_cons_zero, List.set_cons_succ])
  refine wpAnyH_ready (rs := [6]) (by kernel_rfl) (by simp) ?_; refine AllReadyH.cons (opsAt rfl) (fun K hK => ?_) AllReadyH.nil; go_simp; go_at_call 19; refine (HST.out _ hW).mono ?_; rintro e w6 ⟨A6, c6, rfl, hE6, hb6⟩; have hW := hW.trans (hb6.mono hW.size); have kz := HKR.out.below hW; dsimp only; refine hK.out _ _ (MK.out _ hW) (fun hHeld => ?_); clear hK K; have HBUILT := Lib.hid (built_its HOK.out (.slice A6 L c6)); have HSR : Hid ((ndC n (.slice A6 L c6)).toArray.size = 30) := Lib.hid (by rw [List.size_toArray, ndC_len HOK.out]); have HK3 := Lib.hid (kz.row (ndC n (.slice A6 L c6))); have HFN := Lib.hid ((HXY.out.trans (hW.mono HXY.out.size)).trans (below_setRow w6 (b + 1) (ndC n (.slice A6 L c6)).toArray HGE.out)); have HE7 : Hid (Ents (w6.setRow (b + 1) (ndC n (.slice A6 L c6)).toArray) (.slice A6 L c6) n.log) := Lib.hid (hE6.farRow kz (by intro x hx s e; subst e; simp [ndC, zeroN, nilV] at hx))
  (try simp only [Act.put, List.setIfInBounds_toArray, List.set_cons_zero, List.set_cons_succ])
  refine wpAnyH_take (i := 21) (opsAt rfl) (by kernel_rfl) (by kernel_rfl) (by kernel_rfl) (fun _ _ _ h => h) (yieldsIf_build (by rfl) 44 _ rfl _ _ (by simp only [List.map_toArray, List.map_cons, List.map_nil, Act.eval]; rfl) HBUILT.out) (by assumption) ?_
  (try simp only [Act.put, List.setIfInBounds_toArray, List.set_cons_zero, List.set_cons_succ])
  refine wpAnyH_ready (rs := [22]) (by kernel_rfl) (by simp) ?_; refine AllReadyH.cons (opsAt rfl) (fun K hK => ?_) AllReadyH.nil; rw [if_pos (by rfl)]; refine wp_store_row 44 _ _ rfl _ _ rfl rfl _ _ kz (by rw [rnode_size, HSR.out]) (by rw [HSR.out]; rfl) (ndC_one rfl) ?_; (try simp only [Act.put]); refine hK.out _ _ (MK2.out _ _ hW) (fun hHeld => ?_); clear hK K
  (try simp only [Act.put, List.setIfInBounds_toArray, List.set_cons_zero, List.set_cons_succ])
  refine wpAnyH_done (by kernel_rfl) ?_ _
  go_wp2_with fail
  refine bodyPost_ret (results_cell_row rfl _ _ (b + 1) _ _ (0, 0) _ rfl HK3.out Try.underlying44 rfl (by rw [rnode_size, HSR.out])) rfl ?_
  exact ⟨A6, c6, rfl, HE7.out, HFN.out⟩
theorem rmsg_size : (Try.prog.info? 70).map (·.size) = some 9 := by kernel_rfl
theorem built_msg (m : rf.Msg) (A : Option Addr) (k c : Nat) : Try.prog.built 70 [(0, .int .i64 m.kind), (1, .int .i64 m.frm), (2, .int .i64 m.dst), (3, .int .u64 (m.term : Int)), (4, .int .u64 (m.index : Int)), (5, .int .u64 (m.at_ : Int)), (6, .int .u64 (m.commit : Int)), (7, .slice A k c), (8, .bool m.ok)] = some (msgC m (.slice A k c)).toArray := by kernel_rfl
set_option maxHeartbeats 8000000 in
theorem msg_any (m : rf.Msg) (A : Option Addr) (c : Nat) (w : World) (hv : Ents w (.slice A m.ents.length c) m.ents) (hl : m.ents.length ≤ 10000) :
    Calls Try.prog 26 #[msgV m (.slice A m.ents.length c)] w fun e w' => ∃ A2 c2, e = .returned (msgV m (.slice A2 m.ents.length c2)) ∧ w'.ownsRow w.heap.size 84 2 (.slice A2 m.ents.length c2) m.ents.length (entCells m.ents) ∧ Below w.heap.size w w' := by
  obtain ⟨L, hL⟩ : ∃ L, m.ents.length = L := ⟨_, rfl⟩
  rw [hL] at hv ⊢
  obtain ⟨X, b, hX, hb, hbX, kb⟩ := box_blk w (msgC m (.slice A L c)) 27
  obtain ⟨Y, r, hY, hr, hbY, kr⟩ := box_blk X (msgC rf.msg0 nilV) 70
  obtain rfl : r = b + 1 := by rw [← hr, ← hX, ← hb]; simp
  have kbY := kb.below hbY
  have hbXY := hbX.trans (hbY.mono hbX.size)
  have hvY := hv.below hbXY
  have HX := Lib.hid hX
  have HY : Hid (X.alloc (.cells #[.int .i64 0, .int .i64 0, .int .i64 0, .int .u64 0, .int .u64 0, .int .u64 0, .int .u64 0, .slice none 0 0, .bool false] 70) = Y) := Lib.hid hY
  have HKR := Lib.hid kr
  have HXY := Lib.hid hbXY
  have HV := Lib.hid hvY
  have hge : w.heap.size ≤ b + 1 := by omega
  have HGE := Lib.hid hge
  have hall : ∀ W, Blk W b (msgC m (.slice A L c)) 27 → (W.cell? ⟨b, 0, none⟩ = some (.int .i64 m.kind) ∧ W.cell? ⟨b, 1, none⟩ = some (.int .i64 m.frm) ∧ W.cell? ⟨b, 2, none⟩ = some (.int .i64 m.dst) ∧ W.cell? ⟨b, 3, none⟩ = some (.int .u64 (m.term : Int)) ∧ W.cell? ⟨b, 4, none⟩ = some (.int .u64 (m.index : Int)) ∧ W.cell? ⟨b, 5, none⟩ = some (.int .u64 (m.at_ : Int)) ∧ W.cell? ⟨b, 6, none⟩ = some (.int .u64 (m.commit : Int)) ∧ W.cell? ⟨b, 7, none⟩ = some (.slice A L c) ∧ W.cell? ⟨b, 8, none⟩ = some (.bool m.ok)) := fun W k =>
    ⟨k.cell 0 _ rfl, k.cell 1 _ rfl, k.cell 2 _ rfl, k.cell 3 _ rfl, k.cell 4 _ rfl, k.cell 5 _ rfl, k.cell 6 _ rfl, k.cell 7 _ rfl, k.cell 8 _ rfl⟩
  have MK : Hid (∀ w', Below Y.heap.size Y w' → (w'.cell? ⟨b, 0, none⟩ = some (.int .i64 m.kind) ∧ w'.cell? ⟨b, 1, none⟩ = some (.int .i64 m.frm) ∧ w'.cell? ⟨b, 2, none⟩ = some (.int .i64 m.dst) ∧ w'.cell? ⟨b, 3, none⟩ = some (.int .u64 (m.term : Int)) ∧ w'.cell? ⟨b, 4, none⟩ = some (.int .u64 (m.index : Int)) ∧ w'.cell? ⟨b, 5, none⟩ = some (.int .u64 (m.at_ : Int)) ∧ w'.cell? ⟨b, 6, none⟩ = some (.int .u64 (m.commit : Int)) ∧ w'.cell? ⟨b, 7, none⟩ = some (.slice A L c) ∧ w'.cell? ⟨b, 8, none⟩ = some (.bool m.ok))) := Lib.hid (fun w' h => hall _ (kbY.below h))
  have MK2 : Hid (∀ w' vs, Below Y.heap.size Y w' → ((w'.setRow (b + 1) vs).cell? ⟨b, 0, none⟩ = some (.int .i64 m.kind) ∧ (w'.setRow (b + 1) vs).cell? ⟨b, 1, none⟩ = some (.int .i64 m.frm) ∧ (w'.setRow (b + 1) vs).cell? ⟨b, 2, none⟩ = some (.int .i64 m.dst) ∧ (w'.setRow (b + 1) vs).cell? ⟨b, 3, none⟩ = some (.int .u64 (m.term : Int)) ∧ (w'.setRow (b + 1) vs).cell? ⟨b, 4, none⟩ = some (.int .u64 (m.index : Int)) ∧ (w'.setRow (b + 1) vs).cell? ⟨b, 5, none⟩ = some (.int .u64 (m.at_ : Int)) ∧ (w'.setRow (b + 1) vs).cell? ⟨b, 6, none⟩ = some (.int .u64 (m.commit : Int)) ∧ (w'.setRow (b + 1) vs).cell? ⟨b, 7, none⟩ = some (.slice A L c) ∧ (w'.setRow (b + 1) vs).cell? ⟨b, 8, none⟩ = some (.bool m.ok))) := Lib.hid (fun w' vs h => hall _ ((setRow_apart w' (b + 1) vs b (by omega)).trans (kbY.below h)))
  have hst : ∀ W, Below Y.heap.size Y W → Calls Try.prog 34 #[.slice A L c] W fun e w' => ∃ A2 c2, e = .returned (.slice A2 L c2) ∧ w'.ownsRow W.heap.size 84 2 (.slice A2 L c2) L (entCells m.ents) ∧ Below W.heap.size W w' := by
    intro W hb
    have h := entries_any _ m.ents W (hvY.below hb) hl
    rw [hL] at h
    exact h
  have HST := Lib.hid hst
  have hW : Below Y.heap.size Y Y.drew := below_drewN (Below.refl _ Y) 1
  clear hX hY kb kr kbY hbX hbY hbXY hv hvY hL hl hge hall hst
  unfold msgV
  go_enter Try.func26, Try.ntmps26
  go_upto_region 1 with fail
  rw [HX.out, HY.out]
  refine wp_region_held_drew (S := fun w' => (w'.cell? ⟨b, 0, none⟩ = some (.int .i64 m.kind) ∧ w'.cell? ⟨b, 1, none⟩ = some (.int .i64 m.frm) ∧ w'.cell? ⟨b, 2, none⟩ = some (.int .i64 m.dst) ∧ w'.cell? ⟨b, 3, none⟩ = some (.int .u64 (m.term : Int)) ∧ w'.cell? ⟨b, 4, none⟩ = some (.int .u64 (m.index : Int)) ∧ w'.cell? ⟨b, 5, none⟩ = some (.int .u64 (m.at_ : Int)) ∧ w'.cell? ⟨b, 6, none⟩ = some (.int .u64 (m.commit : Int)) ∧ w'.cell? ⟨b, 7, none⟩ = some (.slice A L c) ∧ w'.cell? ⟨b, 8, none⟩ = some (.bool m.ok))) (by kernel_rfl) (MK.out _ hW) (fun hHeld => ?_)
  (refine wpAnyH_take (i := 0) (v := ?_) (opsAt rfl) (by kernel_rfl) (by kernel_rfl) (by kernel_rfl) (fun _ _ _ h => h) (Or.inl ⟨by rfl, ?_⟩) (by assumption) ?_; rotate_left; focus (intro w hSw; (try dsimp only at hSw); go_simp; (try with_reducible rfl); done))
  (try simp only [Act.put, List.setIfInBounds_toArray, List.set_cons_zero, List.set_cons_succ])
  (refine wpAnyH_take (i := 1) (v := ?_) (opsAt rfl) (by kernel_rfl) (by kernel_rfl) (by kernel_rfl) (fun _ _ _ h => h) (Or.inl ⟨by rfl, ?_⟩) (by assumption) ?_; rotate_left; focus (intro w hSw; (try dsimp only at hSw); go_simp; (try with_reducible rfl); done))
  (try simp only [Act.put, List.setIfInBounds_toArray, List.set_cons_zero, List.set_cons_succ])
  (refine wpAnyH_take (i := 2) (v := ?_) (opsAt rfl) (by kernel_rfl) (by kernel_rfl) (by kernel_rfl) (fun _ _ _ h => h) (Or.inl ⟨by rfl, ?_⟩) (by assumption) ?_; rotate_left; focus (intro w hSw; (try dsimp only at hSw); go_simp; (try with_reducible rfl); done))
  (try simp only [Act.put, List.setIfInBounds_toArray, List.set_cons_zero, List.set_cons_succ])
  (refine wpAnyH_take (i := 3) (v := ?_) (opsAt rfl) (by kernel_rfl) (by kernel_rfl) (by kernel_rfl) (fun _ _ _ h => h) (Or.inl ⟨by rfl, ?_⟩) (by assumption) ?_; rotate_left; focus (intro w hSw; (try dsimp only at hSw); go_simp; (try with_reducible rfl); done))
  (try simp only [Act.put, List.setIfInBounds_toArray, List.set_cons_zero, List.set_cons_succ])
  (refine wpAnyH_take (i := 4) (v := ?_) (opsAt rfl) (by kernel_rfl) (by kernel_rfl) (by kernel_rfl) (fun _ _ _ h => h) (Or.inl ⟨by rfl, ?_⟩) (by assumption) ?_; rotate_left; focus (intro w hSw; (try dsimp only at hSw); go_simp; (try with_reducible rfl); done))
  (try simp only [Act.put, List.setIfInBounds_toArray, List.set_cons_zero, List.set_cons_succ])
  (refine wpAnyH_take (i := 5) (v := ?_) (opsAt rfl) (by kernel_rfl) (by kernel_rfl) (by kernel_rfl) (fun _ _ _ h => h) (Or.inl ⟨by rfl, ?_⟩) (by assumption) ?_; rotate_left; focus (intro w hSw; (try dsimp only at hSw); go_simp; (try with_reducible rfl); done))
  (try simp only [Act.put, List.setIfInBounds_toArray, List.set_cons_zero, List.set_cons_succ])
  (refine wpAnyH_take (i := 6) (v := ?_) (opsAt rfl) (by kernel_rfl) (by kernel_rfl) (by kernel_rfl) (fun _ _ _ h => h) (Or.inl ⟨by rfl, ?_⟩) (by assumption) ?_; rotate_left; focus (intro w hSw; (try dsimp only at hSw); go_simp; (try with_reducible rfl); done))
  (try simp only [Act.put, List.setIfInBounds_toArray, List.set_cons_zero, List.set_cons_succ])
  (refine wpAnyH_take (i := 7) (v := ?_) (opsAt rfl) (by kernel_rfl) (by kernel_rfl) (by kernel_rfl) (fun _ _ _ h => h) (Or.inl ⟨by rfl, ?_⟩) (by assumption) ?_; rotate_left; focus (intro w hSw; (try dsimp only at hSw); go_simp; (try with_reducible rfl); done))
  (try simp only [Act.put, List.setIfInBounds_toArray, List.set_cons_zero, List.set_cons_succ])
  (refine wpAnyH_take (i := 8) (v := ?_) (opsAt rfl) (by kernel_rfl) (by kernel_rfl) (by kernel_rfl) (fun _ _ _ h => h) (Or.inl ⟨by rfl, ?_⟩) (by assumption) ?_; rotate_left; focus (intro w hSw; (try dsimp only at hSw); go_simp; (try with_reducible rfl); done))
  (try simp only [Act.put, List.setIfInBounds_toArray, List.set_cons_zero, List.set_cons_succ])
  (refine wpAnyH_take (i := 9) (v := ?_) (opsAt rfl) (by kernel_rfl) (by kernel_rfl) (by kernel_rfl) (fun _ _ _ h => h) (Or.inl ⟨by rfl, ?_⟩) (by assumption) ?_; rotate_left; focus (intro w hSw; (try dsimp only at hSw); go_simp; (try with_reducible rfl); done))
  (try simp only [Act.put, List.setIfInBounds_toArray, List.set_cons_zero, List.set_cons_succ])
  (refine wpAnyH_take (i := 10) (v := ?_) (opsAt rfl) (by kernel_rfl) (by kernel_rfl) (by kernel_rfl) (fun _ _ _ h => h) (Or.inl ⟨by rfl, ?_⟩) (by assumption) ?_; rotate_left; focus (intro w hSw; (try dsimp only at hSw); go_simp; (try with_reducible rfl); done))
  (try simp only [Act.put, List.setIfInBounds_toArray, List.set_cons_zero, List.set_cons_succ])
  (refine wpAnyH_take (i := 11) (v := ?_) (opsAt rfl) (by kernel_rfl) (by kernel_rfl) (by kernel_rfl) (fun _ _ _ h => h) (Or.inl ⟨by rfl, ?_⟩) (by assumption) ?_; rotate_left; focus (intro w hSw; (try dsimp only at hSw); go_simp; (try with_reducible rfl); done))
  (try simp only [Act.put, List.setIfInBounds_toArray, List.set_cons_zero, List.set_cons_succ])
  (refine wpAnyH_take (i := 12) (v := ?_) (opsAt rfl) (by kernel_rfl) (by kernel_rfl) (by kernel_rfl) (fun _ _ _ h => h) (Or.inl ⟨by rfl, ?_⟩) (by assumption) ?_; rotate_left; focus (intro w hSw; (try dsimp only at hSw); go_simp; (try with_reducible rfl); done))
  (try simp only [Act.put, List.setIfInBounds_toArray, List.set_cons_zero, List.set_cons_succ])
  (refine wpAnyH_take (i := 13) (v := ?_) (opsAt rfl) (by kernel_rfl) (by kernel_rfl) (by kernel_rfl) (fun _ _ _ h => h) (Or.inl ⟨by rfl, ?_⟩) (by assumption) ?_; rotate_left; focus (intro w hSw; (try dsimp only at hSw); go_simp; (try with_reducible rfl); done))
  (try simp only [Act.put, List.setIfInBounds_toArray, List.set_cons_zero, List.set_cons_succ])
  (refine wpAnyH_take (i := 14) (v := ?_) (opsAt rfl) (by kernel_rfl) (by kernel_rfl) (by kernel_rfl) (fun _ _ _ h => h) (Or.inl ⟨by rfl, ?_⟩) (by assumption) ?_; rotate_left; focus (intro w hSw; (try dsimp only at hSw); go_simp; (try with_reducible rfl); done))
  (try simp only [Act.put, List.setIfInBounds_toArray, List.set_cons_zero, List.set_cons_succ])
  (refine wpAnyH_take (i := 15) (v := ?_) (opsAt rfl) (by kernel_rfl) (by kernel_rfl) (by kernel_rfl) (fun _ _ _ h => h) (Or.inl ⟨by rfl, ?_⟩) (by assumption) ?_; rotate_left; focus (intro w hSw; (try dsimp only at hSw); go_simp; (try with_reducible rfl); done))
  (try simp only [Act.put, List.setIfInBounds_toArray, List.set_cons_zero, List.set_cons_succ])
  (refine wpAnyH_take (i := 17) (v := ?_) (opsAt rfl) (by kernel_rfl) (by kernel_rfl) (by kernel_rfl) (fun _ _ _ h => h) (Or.inl ⟨by rfl, ?_⟩) (by assumption) ?_; rotate_left; focus (intro w hSw; (try dsimp only at hSw); go_simp; (try with_reducible rfl); done))
  (try simp only [Act.put, List.setIfInBounds_toArray, List.set_cons_zero, List.set_cons_succ])
  (refine wpAnyH_take (i := 18) (v := ?_) (opsAt rfl) (by kernel_rfl) (by kernel_rfl) (by kernel_rfl) (fun _ _ _ h => h) (Or.inl ⟨by rfl, ?_⟩) (by assumption) ?_; rotate_left; focus (intro w hSw; (try dsimp only at hSw); go_simp; (try with_reducible rfl); done))
  (try simp only [Act.put, List.setIfInBounds_toArray, List.set_cons_zero, List.set_cons_succ])
  refine wpAnyH_ready (rs := [16]) (by kernel_rfl) (by simp) ?_; refine AllReadyH.cons (opsAt rfl) (fun K hK => ?_) AllReadyH.nil; go_simp; go_at_call 34; refine (HST.out _ hW).mono ?_; rintro e w6 ⟨A6, c6, rfl, hO6, hb6⟩; have hO6 := owns_below0 hO6 (Nat.le_trans HXY.out.size hW.size); have hW := hW.trans (hb6.mono hW.size); have kz := HKR.out.below hW; dsimp only; refine hK.out _ _ (MK.out _ hW) (fun hHeld => ?_); clear hK K; have HBUILT := Lib.hid (built_msg m A6 L c6); have HK3 := Lib.hid (kz.row (msgC m (.slice A6 L c6))); have HFN := Lib.hid ((HXY.out.trans (hW.mono HXY.out.size)).trans (below_setRow w6 (b + 1) (msgC m (.slice A6 L c6)).toArray HGE.out)); have HE7 : Hid ((w6.setRow (b + 1) (msgC m (.slice A6 L c6)).toArray).ownsRow w.heap.size 84 2 (.slice A6 L c6) L (entCells m.ents)) := Lib.hid (owns_setRow hO6 kz (by decide))
  (try simp only [Act.put, List.setIfInBounds_toArray, List.set_cons_zero, List.set_cons_succ])
  refine wpAnyH_take (i := 19) (opsAt rfl) (by kernel_rfl) (by kernel_rfl) (by kernel_rfl) (fun _ _ _ h => h) (yieldsIf_build (by rfl) 70 _ rfl _ _ (by simp only [List.map_toArray, List.map_cons, List.map_nil, Act.eval]; rfl) HBUILT.out) (by assumption) ?_
  (try simp only [Act.put, List.setIfInBounds_toArray, List.set_cons_zero, List.set_cons_succ])
  refine wpAnyH_ready (rs := [20]) (by kernel_rfl) (by simp) ?_; refine AllReadyH.cons (opsAt rfl) (fun K hK => ?_) AllReadyH.nil; rw [if_pos (by rfl)]; refine wp_store_row 70 _ _ rfl _ _ rfl rfl _ _ kz (by rw [rmsg_size]; rfl) rfl (all_oneCell_toArray (msgC_one rfl)) ?_; (try simp only [Act.put]); refine hK.out _ _ (MK2.out _ _ hW) (fun hHeld => ?_); clear hK K
  (try simp only [Act.put, List.setIfInBounds_toArray, List.set_cons_zero, List.set_cons_succ])
  refine wpAnyH_done (by kernel_rfl) ?_ _
  go_wp2_with fail
  refine bodyPost_ret (results_cell_row rfl _ _ (b + 1) _ _ (0, 0) _ rfl HK3.out Try.underlying70 rfl (by rw [rmsg_size]; rfl)) rfl ?_
  exact ⟨A6, c6, rfl, HE7.out, HFN.out⟩
end Go.Proofs.Ytkoidphhlfjlhaa
