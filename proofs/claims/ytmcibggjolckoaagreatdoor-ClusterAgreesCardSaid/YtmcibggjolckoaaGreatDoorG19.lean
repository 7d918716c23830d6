/- KfAskVote: one behind the other. -/
import Derived.Test.YtmcibggjolckoaaGreatDoorG18
namespace Go.Proofs.YtmcibggjolckoaaGreatDoor
open Go Go.RowKit Go.Deep
set_option maxRecDepth 100000

theorem opsAt {ops : Array Oper} {i : Nat} {oi : Oper} (h : (ops.toList.drop i).head? = some oi) : ops[i]? = some oi := by
  rw [List.head?_drop] at h
  rw [← h, Array.getElem?_toList]
def msgV (m : rf.Msg) (em : Value) : Value := .agg (msgC m em).toArray
theorem box_blk (w : World) (vs : List Value) (t : TypeId) : ∃ X b, w.alloc (.cells vs.toArray t) = X ∧ w.heap.size = b ∧ Below w.heap.size w X ∧ Blk X b vs t := ⟨_, _, rfl, rfl, (Below.refl _ w).alloc (Nat.le_refl _) _, Blk.new w vs t⟩
theorem askOk_eq (n : rf.Node) (m : rf.Msg) : rf.askOk n m = (decide (m.term = n.term) && (decide (n.vote = -1) || decide (n.vote = m.frm)) && rl.newer n.log m.at_ m.index) := rfl
set_option maxHeartbeats 8000000 in
theorem ask_any {base s : Nat} {w : World} {n : rf.Node} {A B : Option Addr} {c d : Nat} {ms : List rf.Msg} (m : rf.Msg) (A2 : Option Addr) (k2 c2 : Nat) (h : St base w s n (.slice A n.log.length c) (.slice B ms.length d) ms) (hl : ms.length ≤ 900) (hlog : n.log.length ≤ 10000) :
    Calls Tryz.prog 62 #[.pointer (some ⟨s, 0, none⟩), msgV m (.slice A2 k2 c2)] w fun e w' => e = .returned (.tuple #[]) ∧ StTo base w s (rf.ask n m).1 (ms ++ (rf.ask n m).2) w' := by
  obtain ⟨X, bm, hX, hbm, hbX, kb⟩ := box_blk w (msgC m (.slice A2 k2 c2)) 83
  have hbs : ¬ bm = s := by have := h.blk.lt; omega
  have hbs2 : ¬ s = bm := fun e => hbs e.symm
  obtain ⟨L, hL⟩ : ∃ L, n.log.length = L := ⟨_, rfl⟩
  rw [hL] at h hlog
  have hx := (Sx.start h).later hbX
  have HX := Lib.hid hX
  have HSX := Lib.hid hx
  have HKB := Lib.hid kb
  have HL := Lib.hid hL
  have HLog := Lib.hid hlog
  have HML := Lib.hid hl
  have MK : Hid (∀ w', Below X.heap.size X w' → w'.cell? ⟨s, 2, none⟩ = some (.int .u64 (n.term : Int)) ∧ w'.cell? ⟨s, 3, none⟩ = some (.int .i64 n.vote) ∧ w'.cell? ⟨s, 4, none⟩ = some (.slice A L c) ∧ w'.cell? ⟨bm, 1, none⟩ = some (.int .i64 m.frm) ∧ w'.cell? ⟨bm, 3, none⟩ = some (.int .u64 (m.term : Int)) ∧ w'.cell? ⟨bm, 4, none⟩ = some (.int .u64 (m.index : Int)) ∧ w'.cell? ⟨bm, 5, none⟩ = some (.int .u64 (m.at_ : Int))) := Lib.hid (fun w' h => by
    have h1 := HSX.out.later h
    have k1 := HKB.out.below h
    exact ⟨h1.st.cell 2 _ (stC_low _ _ 2 _ rfl), h1.st.cell 3 _ (stC_low _ _ 3 _ rfl), h1.st.cell 4 _ (stC_low _ _ 4 _ rfl), k1.cell 1 _ rfl, k1.cell 3 _ rfl, k1.cell 4 _ rfl, k1.cell 5 _ rfl⟩)
  clear hX hx kb hL h hlog hl hbX
  unfold msgV msgC
  go_enter Tryz.func62, Tryz.ntmps62
  go_upto_region 1 with fail
  rw [show w.alloc (.cells #[.int .i64 m.kind, .int .i64 m.frm, .int .i64 m.dst, .int .u64 (m.term : Int), .int .u64 (m.index : Int), .int .u64 (m.at_ : Int), .int .u64 (m.commit : Int), .slice A2 k2 c2, .bool m.ok] 83) = X from HX.out]
  go_wp2_with fail
  have hW : Below X.heap.size X X.drew := below_drewN (Below.refl _ X) 1
  go_cut [5] (fun s5 wx => s5 = .bool (rf.askOk n m) ∧ Below X.heap.size X wx)
  case first =>
    have hcs : ∃ q : Bool, (∃ f1 f2 f3 : Bool, ((m.term : Int) == (n.term : Int)) = f1 ∧ (n.vote == -1) = f2 ∧ (n.vote == m.frm) = f3 ∧ (f1 && (f2 || f3)) = q) ∧ rf.askOk n m = (q && rl.newer n.log m.at_ m.index) := by
      refine ⟨_, ⟨_, _, _, rfl, rfl, rfl, rfl⟩, ?_⟩
      rw [askOk_eq]
      congr 1
      have e1 : ((m.term : Int) == (n.term : Int)) = decide (m.term = n.term) := by
        by_cases h : m.term = n.term
        · rw [h]; simp
        · rw [decide_eq_false h, beq_eq_false_iff_ne]; omega
      rw [e1]
      rfl
    obtain ⟨q, ⟨f1, f2, f3, h1, h2, h3, hq⟩, hfin⟩ := hcs
    have HF := Lib.hid hfin
    clear hfin
    refine wp_region_held_drew (S := (fun w' => w'.cell? ⟨s, 2, none⟩ = some (.int .u64 (n.term : Int)) ∧ w'.cell? ⟨s, 3, none⟩ = some (.int .i64 n.vote) ∧ w'.cell? ⟨s, 4, none⟩ = some (.slice A L c) ∧ w'.cell? ⟨bm, 1, none⟩ = some (.int .i64 m.frm) ∧ w'.cell? ⟨bm, 3, none⟩ = some (.int .u64 (m.term : Int)) ∧ w'.cell? ⟨bm, 4, none⟩ = some (.int .u64 (m.index : Int)) ∧ w'.cell? ⟨bm, 5, none⟩ = some (.int .u64 (m.at_ : Int)))) (by kernel_rfl) (MK.out _ hW) (fun hHeld => ?_)
    cases f1 <;> cases f2 <;> cases f3 <;> (have hq := hq.symm; simp only [Bool.false_and, Bool.true_and, Bool.or_true, Bool.or_false] at hq; subst hq)
    all_goals
      first | (refine wpAnyH_take (i := 0) (v := ?_) (opsAt rfl) (by kernel_rfl) (by kernel_rfl) (by kernel_rfl) (fun _ _ _ h => h) (Or.inl ⟨by rfl, ?_⟩) (by assumption) ?_; rotate_left; focus (intro w hSw; (try dsimp only at hSw); go_simp; (try with_reducible rfl); done)) | (refine wpAnyH_take (i := 0) (v := undef) (opsAt rfl) (by kernel_rfl) (by kernel_rfl) (by kernel_rfl) (fun _ _ _ h => h) (Or.inr ⟨by rfl, rfl⟩) (by assumption) ?_)
      (try simp only [Act.put, List.setIfInBounds_toArray, List.set_cons_zero, List.set_cons_succ])
      first | (refine wpAnyH_take (i := 1) (v := ?_) (opsAt rfl) (by kernel_rfl) (by kernel_rfl) (by kernel_rfl) (fun _ _ _ h => h) (Or.inl ⟨by rfl, ?_⟩) (by assumption) ?_; rotate_left; focus (intro w hSw; (try dsimp only at hSw); go_simp; (try with_reducible rfl); done)) | (refine wpAnyH_take (i := 1) (v := undef) (opsAt rfl) (by kernel_rfl) (by kernel_rfl) (by kernel_rfl) (fun _ _ _ h => h) (Or.inr ⟨by rfl, rfl⟩) (by assumption) ?_)
      (try simp only [Act.put, List.setIfInBounds_toArray, List.set_cons_zero, List.set_cons_succ])
      first | (refine wpAnyH_take (i := 2) (v := ?_) (opsAt rfl) (by kernel_rfl) (by kernel_rfl) (by kernel_rfl) (fun _ _ _ h => h) (Or.inl ⟨by rfl, ?_⟩) (by assumption) ?_; rotate_left; focus (intro w hSw; (try dsimp only at hSw); go_simp; (try with_reducible rfl); done)) | (refine wpAnyH_take (i := 2) (v := undef) (opsAt rfl) (by kernel_rfl) (by kernel_rfl) (by kernel_rfl) (fun _ _ _ h => h) (Or.inr ⟨by rfl, rfl⟩) (by assumption) ?_)
      (try simp only [Act.put, List.setIfInBounds_toArray, List.set_cons_zero, List.set_cons_succ])
      first | (refine wpAnyH_take (i := 3) (v := ?_) (opsAt rfl) (by kernel_rfl) (by kernel_rfl) (by kernel_rfl) (fun _ _ _ h => h) (Or.inl ⟨by rfl, ?_⟩) (by assumption) ?_; rotate_left; focus (intro w hSw; (try dsimp only at hSw); go_simp; (try with_reducible rfl); done)) | (refine wpAnyH_take (i := 3) (v := undef) (opsAt rfl) (by kernel_rfl) (by kernel_rfl) (by kernel_rfl) (fun _ _ _ h => h) (Or.inr ⟨by rfl, rfl⟩) (by assumption) ?_)
      (try simp only [Act.put, List.setIfInBounds_toArray, List.set_cons_zero, List.set_cons_succ])
      first | (refine wpAnyH_take (i := 4) (v := ?_) (opsAt rfl) (by kernel_rfl) (by kernel_rfl) (by kernel_rfl) (fun _ _ _ h => h) (Or.inl ⟨by rfl, ?_⟩) (by assumption) ?_; rotate_left; focus (intro w hSw; (try dsimp only at hSw); go_simp; (try with_reducible rfl); done)) | (refine wpAnyH_take (i := 4) (v := undef) (opsAt rfl) (by kernel_rfl) (by kernel_rfl) (by kernel_rfl) (fun _ _ _ h => h) (Or.inr ⟨by rfl, rfl⟩) (by assumption) ?_)
      (try simp only [Act.put, List.setIfInBounds_toArray, List.set_cons_zero, List.set_cons_succ])
      first | (refine wpAnyH_take (i := 5) (v := ?_) (opsAt rfl) (by kernel_rfl) (by kernel_rfl) (by kernel_rfl) (fun _ _ _ h => h) (Or.inl ⟨by rfl, ?_⟩) (by assumption) ?_; rotate_left; focus (intro w hSw; (try dsimp only at hSw); go_simp; (try with_reducible rfl); done)) | (refine wpAnyH_take (i := 5) (v := undef) (opsAt rfl) (by kernel_rfl) (by kernel_rfl) (by kernel_rfl) (fun _ _ _ h => h) (Or.inr ⟨by rfl, rfl⟩) (by assumption) ?_)
      (try simp only [Act.put, List.setIfInBounds_toArray, List.set_cons_zero, List.set_cons_succ])
      first | (refine wpAnyH_take (i := 6) (v := ?_) (opsAt rfl) (by kernel_rfl) (by kernel_rfl) (by kernel_rfl) (fun _ _ _ h => h) (Or.inl ⟨by rfl, ?_⟩) (by assumption) ?_; rotate_left; focus (intro w hSw; (try dsimp only at hSw); go_simp; (try with_reducible rfl); done)) | (refine wpAnyH_take (i := 6) (v := undef) (opsAt rfl) (by kernel_rfl) (by kernel_rfl) (by kernel_rfl) (fun _ _ _ h => h) (Or.inr ⟨by rfl, rfl⟩) (by assumption) ?_)
      (try simp only [Act.put, List.setIfInBounds_toArray, List.set_cons_zero, List.set_cons_succ])
      first | (refine wpAnyH_take (i := 7) (v := ?_) (opsAt rfl) (by kernel_rfl) (by kernel_rfl) (by kernel_rfl) (fun _ _ _ h => h) (Or.inl ⟨by rfl, ?_⟩) (by assumption) ?_; rotate_left; focus (intro w hSw; (try dsimp only at hSw); go_simp; (try with_reducible rfl); done)) | (refine wpAnyH_take (i := 7) (v := undef) (opsAt rfl) (by kernel_rfl) (by kernel_rfl) (by kernel_rfl) (fun _ _ _ h => h) (Or.inr ⟨by rfl, rfl⟩) (by assumption) ?_)
      (try simp only [Act.put, List.setIfInBounds_toArray, List.set_cons_zero, List.set_cons_succ])
      first | (refine wpAnyH_take (i := 8) (v := ?_) (opsAt rfl) (by kernel_rfl) (by kernel_rfl) (by kernel_rfl) (fun _ _ _ h => h) (Or.inl ⟨by rfl, ?_⟩) (by assumption) ?_; rotate_left; focus (intro w hSw; (try dsimp only at hSw); go_simp; (try with_reducible rfl); done)) | (refine wpAnyH_take (i := 8) (v := undef) (opsAt rfl) (by kernel_rfl) (by kernel_rfl) (by kernel_rfl) (fun _ _ _ h => h) (Or.inr ⟨by rfl, rfl⟩) (by assumption) ?_)
      (try simp only [Act.put, List.setIfInBounds_toArray, List.set_cons_zero, List.set_cons_succ])
      first | (refine wpAnyH_take (i := 9) (v := ?_) (opsAt rfl) (by kernel_rfl) (by kernel_rfl) (by kernel_rfl) (fun _ _ _ h => h) (Or.inl ⟨by rfl, ?_⟩) (by assumption) ?_; rotate_left; focus (intro w hSw; (try dsimp only at hSw); go_simp; (try with_reducible rfl); done)) | (refine wpAnyH_take (i := 9) (v := undef) (opsAt rfl) (by kernel_rfl) (by kernel_rfl) (by kernel_rfl) (fun _ _ _ h => h) (Or.inr ⟨by rfl, rfl⟩) (by assumption) ?_)
      (try simp only [Act.put, List.setIfInBounds_toArray, List.set_cons_zero, List.set_cons_succ])
      first | (refine wpAnyH_take (i := 10) (v := ?_) (opsAt rfl) (by kernel_rfl) (by kernel_rfl) (by kernel_rfl) (fun _ _ _ h => h) (Or.inl ⟨by rfl, ?_⟩) (by assumption) ?_; rotate_left; focus (intro w hSw; (try dsimp only at hSw); go_simp; (try with_reducible rfl); done)) | (refine wpAnyH_take (i := 10) (v := undef) (opsAt rfl) (by kernel_rfl) (by kernel_rfl) (by kernel_rfl) (fun _ _ _ h => h) (Or.inr ⟨by rfl, rfl⟩) (by assumption) ?_)
      (try simp only [Act.put, List.setIfInBounds_toArray, List.set_cons_zero, List.set_cons_succ])
      first | (refine wpAnyH_take (i := 11) (v := ?_) (opsAt rfl) (by kernel_rfl) (by kernel_rfl) (by kernel_rfl) (fun _ _ _ h => h) (Or.inl ⟨by rfl, ?_⟩) (by assumption) ?_; rotate_left; focus (intro w hSw; (try dsimp only at hSw); go_simp; (try with_reducible rfl); done)) | (refine wpAnyH_take (i := 11) (v := undef) (opsAt rfl) (by kernel_rfl) (by kernel_rfl) (by kernel_rfl) (fun _ _ _ h => h) (Or.inr ⟨by rfl, rfl⟩) (by assumption) ?_)
      (try simp only [Act.put, List.setIfInBounds_toArray, List.set_cons_zero, List.set_cons_succ])
      first | (refine wpAnyH_take (i := 12) (v := ?_) (opsAt rfl) (by kernel_rfl) (by kernel_rfl) (by kernel_rfl) (fun _ _ _ h => h) (Or.inl ⟨by rfl, ?_⟩) (by assumption) ?_; rotate_left; focus (intro w hSw; (try dsimp only at hSw); go_simp; (try with_reducible rfl); done)) | (refine wpAnyH_take (i := 12) (v := undef) (opsAt rfl) (by kernel_rfl) (by kernel_rfl) (by kernel_rfl) (fun _ _ _ h => h) (Or.inr ⟨by rfl, rfl⟩) (by assumption) ?_)
      (try simp only [Act.put, List.setIfInBounds_toArray, List.set_cons_zero, List.set_cons_succ])
      first | (refine wpAnyH_take (i := 13) (v := ?_) (opsAt rfl) (by kernel_rfl) (by kernel_rfl) (by kernel_rfl) (fun _ _ _ h => h) (Or.inl ⟨by rfl, ?_⟩) (by assumption) ?_; rotate_left; focus (intro w hSw; (try dsimp only at hSw); go_simp; (try with_reducible rfl); done)) | (refine wpAnyH_take (i := 13) (v := undef) (opsAt rfl) (by kernel_rfl) (by kernel_rfl) (by kernel_rfl) (fun _ _ _ h => h) (Or.inr ⟨by rfl, rfl⟩) (by assumption) ?_)
      (try simp only [Act.put, List.setIfInBounds_toArray, List.set_cons_zero, List.set_cons_succ])
      first | (refine wpAnyH_take (i := 14) (v := ?_) (opsAt rfl) (by kernel_rfl) (by kernel_rfl) (by kernel_rfl) (fun _ _ _ h => h) (Or.inl ⟨by rfl, ?_⟩) (by assumption) ?_; rotate_left; focus (intro w hSw; (try dsimp only at hSw); go_simp; (try with_reducible rfl); done)) | (refine wpAnyH_take (i := 14) (v := undef) (opsAt rfl) (by kernel_rfl) (by kernel_rfl) (by kernel_rfl) (fun _ _ _ h => h) (Or.inr ⟨by rfl, rfl⟩) (by assumption) ?_)
      (try simp only [Act.put, List.setIfInBounds_toArray, List.set_cons_zero, List.set_cons_succ])
      first | (refine wpAnyH_take (i := 15) (v := ?_) (opsAt rfl) (by kernel_rfl) (by kernel_rfl) (by kernel_rfl) (fun _ _ _ h => h) (Or.inl ⟨by rfl, ?_⟩) (by assumption) ?_; rotate_left; focus (intro w hSw; (try dsimp only at hSw); go_simp; (try with_reducible rfl); done)) | (refine wpAnyH_take (i := 15) (v := undef) (opsAt rfl) (by kernel_rfl) (by kernel_rfl) (by kernel_rfl) (fun _ _ _ h => h) (Or.inr ⟨by rfl, rfl⟩) (by assumption) ?_)
      (try simp only [Act.put, List.setIfInBounds_toArray, List.set_cons_zero, List.set_cons_succ])
      first | (refine wpAnyH_take (i := 16) (v := ?_) (opsAt rfl) (by kernel_rfl) (by kernel_rfl) (by kernel_rfl) (fun _ _ _ h => h) (Or.inl ⟨by rfl, ?_⟩) (by assumption) ?_; rotate_left; focus (intro w hSw; (try dsimp only at hSw); go_simp; (try with_reducible rfl); done)) | (refine wpAnyH_take (i := 16) (v := undef) (opsAt rfl) (by kernel_rfl) (by kernel_rfl) (by kernel_rfl) (fun _ _ _ h => h) (Or.inr ⟨by rfl, rfl⟩) (by assumption) ?_)
      (try simp only [Act.put, List.setIfInBounds_toArray, List.set_cons_zero, List.set_cons_succ])
      first | (refine wpAnyH_take (i := 17) (v := ?_) (opsAt rfl) (by kernel_rfl) (by kernel_rfl) (by kernel_rfl) (fun _ _ _ h => h) (Or.inl ⟨by rfl, ?_⟩) (by assumption) ?_; rotate_left; focus (intro w hSw; (try dsimp only at hSw); go_simp; (try with_reducible rfl); done)) | (refine wpAnyH_take (i := 17) (v := undef) (opsAt rfl) (by kernel_rfl) (by kernel_rfl) (by kernel_rfl) (fun _ _ _ h => h) (Or.inr ⟨by rfl, rfl⟩) (by assumption) ?_)
      (try simp only [Act.put, List.setIfInBounds_toArray, List.set_cons_zero, List.set_cons_succ])
      first | (refine wpAnyH_take (i := 18) (v := ?_) (opsAt rfl) (by kernel_rfl) (by kernel_rfl) (by kernel_rfl) (fun _ _ _ h => h) (Or.inl ⟨by rfl, ?_⟩) (by assumption) ?_; rotate_left; focus (intro w hSw; (try dsimp only at hSw); go_simp; (try with_reducible rfl); done)) | (refine wpAnyH_take (i := 18) (v := undef) (opsAt rfl) (by kernel_rfl) (by kernel_rfl) (by kernel_rfl) (fun _ _ _ h => h) (Or.inr ⟨by rfl, rfl⟩) (by assumption) ?_)
      (try simp only [Act.put, List.setIfInBounds_toArray, List.set_cons_zero, List.set_cons_succ])
      first | (refine wpAnyH_take (i := 19) (v := ?_) (opsAt rfl) (by kernel_rfl) (by kernel_rfl) (by kernel_rfl) (fun _ _ _ h => h) (Or.inl ⟨by rfl, ?_⟩) (by assumption) ?_; rotate_left; focus (intro w hSw; (try dsimp only at hSw); go_simp; (try with_reducible rfl); done)) | (refine wpAnyH_take (i := 19) (v := undef) (opsAt rfl) (by kernel_rfl) (by kernel_rfl) (by kernel_rfl) (fun _ _ _ h => h) (Or.inr ⟨by rfl, rfl⟩) (by assumption) ?_)
      (try simp only [Act.put, List.setIfInBounds_toArray, List.set_cons_zero, List.set_cons_succ])
      first | (refine wpAnyH_take (i := 20) (v := ?_) (opsAt rfl) (by kernel_rfl) (by kernel_rfl) (by kernel_rfl) (fun _ _ _ h => h) (Or.inl ⟨by rfl, ?_⟩) (by assumption) ?_; rotate_left; focus (intro w hSw; (try dsimp only at hSw); go_simp; (try with_reducible rfl); done)) | (refine wpAnyH_take (i := 20) (v := undef) (opsAt rfl) (by kernel_rfl) (by kernel_rfl) (by kernel_rfl) (fun _ _ _ h => h) (Or.inr ⟨by rfl, rfl⟩) (by assumption) ?_)
      (try simp only [Act.put, List.setIfInBounds_toArray, List.set_cons_zero, List.set_cons_succ])
      first | (refine wpAnyH_take (i := 21) (v := ?_) (opsAt rfl) (by kernel_rfl) (by kernel_rfl) (by kernel_rfl) (fun _ _ _ h => h) (Or.inl ⟨by rfl, ?_⟩) (by assumption) ?_; rotate_left; focus (intro w hSw; (try dsimp only at hSw); go_simp; (try with_reducible rfl); done)) | (refine wpAnyH_take (i := 21) (v := undef) (opsAt rfl) (by kernel_rfl) (by kernel_rfl) (by kernel_rfl) (fun _ _ _ h => h) (Or.inr ⟨by rfl, rfl⟩) (by assumption) ?_)
      (try simp only [Act.put, List.setIfInBounds_toArray, List.set_cons_zero, List.set_cons_succ])
      first | (refine wpAnyH_take (i := 22) (v := ?_) (opsAt rfl) (by kernel_rfl) (by kernel_rfl) (by kernel_rfl) (fun _ _ _ h => h) (Or.inl ⟨by rfl, ?_⟩) (by assumption) ?_; rotate_left; focus (intro w hSw; (try dsimp only at hSw); go_simp; (try with_reducible rfl); done)) | (refine wpAnyH_take (i := 22) (v := undef) (opsAt rfl) (by kernel_rfl) (by kernel_rfl) (by kernel_rfl) (fun _ _ _ h => h) (Or.inr ⟨by rfl, rfl⟩) (by assumption) ?_)
      (try simp only [Act.put, List.setIfInBounds_toArray, List.set_cons_zero, List.set_cons_succ])
      first | (refine wpAnyH_take (i := 23) (v := ?_) (opsAt rfl) (by kernel_rfl) (by kernel_rfl) (by kernel_rfl) (fun _ _ _ h => h) (Or.inl ⟨by rfl, ?_⟩) (by assumption) ?_; rotate_left; focus (intro w hSw; (try dsimp only at hSw); go_simp; (try with_reducible rfl); done)) | (refine wpAnyH_take (i := 23) (v := undef) (opsAt rfl) (by kernel_rfl) (by kernel_rfl) (by kernel_rfl) (fun _ _ _ h => h) (Or.inr ⟨by rfl, rfl⟩) (by assumption) ?_)
      (try simp only [Act.put, List.setIfInBounds_toArray, List.set_cons_zero, List.set_cons_succ])
      first | (refine wpAnyH_take (i := 24) (v := ?_) (opsAt rfl) (by kernel_rfl) (by kernel_rfl) (by kernel_rfl) (fun _ _ _ h => h) (Or.inl ⟨by rfl, ?_⟩) (by assumption) ?_; rotate_left; focus (intro w hSw; (try dsimp only at hSw); go_simp; (try with_reducible rfl); done)) | (refine wpAnyH_take (i := 24) (v := undef) (opsAt rfl) (by kernel_rfl) (by kernel_rfl) (by kernel_rfl) (fun _ _ _ h => h) (Or.inr ⟨by rfl, rfl⟩) (by assumption) ?_)
      (try simp only [Act.put, List.setIfInBounds_toArray, List.set_cons_zero, List.set_cons_succ])
      first | (refine wpAnyH_take (i := 25) (v := ?_) (opsAt rfl) (by kernel_rfl) (by kernel_rfl) (by kernel_rfl) (fun _ _ _ h => h) (Or.inl ⟨by rfl, ?_⟩) (by assumption) ?_; rotate_left; focus (intro w hSw; (try dsimp only at hSw); go_simp; (try with_reducible rfl); done)) | (refine wpAnyH_take (i := 25) (v := undef) (opsAt rfl) (by kernel_rfl) (by kernel_rfl) (by kernel_rfl) (fun _ _ _ h => h) (Or.inr ⟨by rfl, rfl⟩) (by assumption) ?_)
      (try simp only [Act.put, List.setIfInBounds_toArray, List.set_cons_zero, List.set_cons_succ])
      first | (refine wpAnyH_take (i := 26) (v := ?_) (opsAt rfl) (by kernel_rfl) (by kernel_rfl) (by kernel_rfl) (fun _ _ _ h => h) (Or.inl ⟨by rfl, ?_⟩) (by assumption) ?_; rotate_left; focus (intro w hSw; (try dsimp only at hSw); go_simp; (try with_reducible rfl); done)) | (refine wpAnyH_take (i := 26) (v := undef) (opsAt rfl) (by kernel_rfl) (by kernel_rfl) (by kernel_rfl) (fun _ _ _ h => h) (Or.inr ⟨by rfl, rfl⟩) (by assumption) ?_)
      (try simp only [Act.put, List.setIfInBounds_toArray, List.set_cons_zero, List.set_cons_succ])
      first | (refine wpAnyH_take (i := 27) (v := ?_) (opsAt rfl) (by kernel_rfl) (by kernel_rfl) (by kernel_rfl) (fun _ _ _ h => h) (Or.inl ⟨by rfl, ?_⟩) (by assumption) ?_; rotate_left; focus (intro w hSw; (try dsimp only at hSw); go_simp; (try with_reducible rfl); done)) | (refine wpAnyH_take (i := 27) (v := undef) (opsAt rfl) (by kernel_rfl) (by kernel_rfl) (by kernel_rfl) (fun _ _ _ h => h) (Or.inr ⟨by rfl, rfl⟩) (by assumption) ?_)
      (try simp only [Act.put, List.setIfInBounds_toArray, List.set_cons_zero, List.set_cons_succ])
      first | (refine wpAnyH_take (i := 28) (v := ?_) (opsAt rfl) (by kernel_rfl) (by kernel_rfl) (by kernel_rfl) (fun _ _ _ h => h) (Or.inl ⟨by rfl, ?_⟩) (by assumption) ?_; rotate_left; focus (intro w hSw; (try dsimp only at hSw); go_simp; (try with_reducible rfl); done)) | (refine wpAnyH_take (i := 28) (v := undef) (opsAt rfl) (by kernel_rfl) (by kernel_rfl) (by kernel_rfl) (fun _ _ _ h => h) (Or.inr ⟨by rfl, rfl⟩) (by assumption) ?_)
      (try simp only [Act.put, List.setIfInBounds_toArray, List.set_cons_zero, List.set_cons_succ])
      first | (refine wpAnyH_take (i := 29) (v := ?_) (opsAt rfl) (by kernel_rfl) (by kernel_rfl) (by kernel_rfl) (fun _ _ _ h => h) (Or.inl ⟨by rfl, ?_⟩) (by assumption) ?_; rotate_left; focus (intro w hSw; (try dsimp only at hSw); go_simp; (try with_reducible rfl); done)) | (refine wpAnyH_take (i := 29) (v := undef) (opsAt rfl) (by kernel_rfl) (by kernel_rfl) (by kernel_rfl) (fun _ _ _ h => h) (Or.inr ⟨by rfl, rfl⟩) (by assumption) ?_)
      (try simp only [Act.put, List.setIfInBounds_toArray, List.set_cons_zero, List.set_cons_succ])
      first | (refine wpAnyH_take (i := 30) (v := ?_) (opsAt rfl) (by kernel_rfl) (by kernel_rfl) (by kernel_rfl) (fun _ _ _ h => h) (Or.inl ⟨by rfl, ?_⟩) (by assumption) ?_; rotate_left; focus (intro w hSw; (try dsimp only at hSw); go_simp; (try with_reducible rfl); done)) | (refine wpAnyH_take (i := 30) (v := undef) (opsAt rfl) (by kernel_rfl) (by kernel_rfl) (by kernel_rfl) (fun _ _ _ h => h) (Or.inr ⟨by rfl, rfl⟩) (by assumption) ?_)
      (try simp only [Act.put, List.setIfInBounds_toArray, List.set_cons_zero, List.set_cons_succ])
      first | (refine wpAnyH_take (i := 31) (v := ?_) (opsAt rfl) (by kernel_rfl) (by kernel_rfl) (by kernel_rfl) (fun _ _ _ h => h) (Or.inl ⟨by rfl, ?_⟩) (by assumption) ?_; rotate_left; focus (intro w hSw; (try dsimp only at hSw); go_simp; (try with_reducible rfl); done)) | (refine wpAnyH_take (i := 31) (v := undef) (opsAt rfl) (by kernel_rfl) (by kernel_rfl) (by kernel_rfl) (fun _ _ _ h => h) (Or.inr ⟨by rfl, rfl⟩) (by assumption) ?_)
      (try simp only [Act.put, List.setIfInBounds_toArray, List.set_cons_zero, List.set_cons_succ])
      first | (refine wpAnyH_take (i := 32) (v := ?_) (opsAt rfl) (by kernel_rfl) (by kernel_rfl) (by kernel_rfl) (fun _ _ _ h => h) (Or.inl ⟨by rfl, ?_⟩) (by assumption) ?_; rotate_left; focus (intro w hSw; (try dsimp only at hSw); go_simp; (try with_reducible rfl); done)) | (refine wpAnyH_take (i := 32) (v := undef) (opsAt rfl) (by kernel_rfl) (by kernel_rfl) (by kernel_rfl) (fun _ _ _ h => h) (Or.inr ⟨by rfl, rfl⟩) (by assumption) ?_)
      (try simp only [Act.put, List.setIfInBounds_toArray, List.set_cons_zero, List.set_cons_succ])
      first | (refine wpAnyH_ready (rs := [33]) (by kernel_rfl) (by simp) ?_; refine AllReadyH.cons (opsAt rfl) (fun K hK => ?_) AllReadyH.nil; go_simp; go_at_call 82; refine (newer_any n.term n.vote _ n.log m.at_ m.index _ (HSX.out.later hW).st.ents.1 (by have := HLog.out; have := HL.out; omega)).mono ?_; rintro e w6 ⟨rfl, hb⟩; have hW := hW.trans (hb.mono hW.size); dsimp only; refine hK.out _ _ (MK.out _ hW) (fun hHeld => ?_); clear hK K) | (refine wpAnyH_take (i := 33) (v := undef) (opsAt rfl) (by kernel_rfl) (by kernel_rfl) (by kernel_rfl) (fun _ _ _ h => h) (Or.inr ⟨by rfl, rfl⟩) (by assumption) ?_)
      (try simp only [Act.put, List.setIfInBounds_toArray, List.set_cons_zero, List.set_cons_succ])
      first | (refine wpAnyH_take (i := 34) (v := ?_) (opsAt rfl) (by kernel_rfl) (by kernel_rfl) (by kernel_rfl) (fun _ _ _ h => h) (Or.inl ⟨by rfl, ?_⟩) (by assumption) ?_; rotate_left; focus (intro w hSw; (try dsimp only at hSw); go_simp; (try with_reducible rfl); done)) | (refine wpAnyH_take (i := 34) (v := undef) (opsAt rfl) (by kernel_rfl) (by kernel_rfl) (by kernel_rfl) (fun _ _ _ h => h) (Or.inr ⟨by rfl, rfl⟩) (by assumption) ?_)
      (try simp only [Act.put, List.setIfInBounds_toArray, List.set_cons_zero, List.set_cons_succ])
      first | (refine wpAnyH_take (i := 35) (v := ?_) (opsAt rfl) (by kernel_rfl) (by kernel_rfl) (by kernel_rfl) (fun _ _ _ h => h) (Or.inl ⟨by rfl, ?_⟩) (by assumption) ?_; rotate_left; focus (intro w hSw; (try dsimp only at hSw); go_simp; (try with_reducible rfl); done)) | (refine wpAnyH_take (i := 35) (v := undef) (opsAt rfl) (by kernel_rfl) (by kernel_rfl) (by kernel_rfl) (fun _ _ _ h => h) (Or.inr ⟨by rfl, rfl⟩) (by assumption) ?_)
      (try simp only [Act.put, List.setIfInBounds_toArray, List.set_cons_zero, List.set_cons_succ])
      refine wpAnyH_done (by kernel_rfl) ?_ _
      go_wp2_with fail
      go_meet
      exact ⟨by rw [HF.out]; rfl, hW⟩
  case rest =>
    obtain ⟨rfl, hc⟩ := hcut
    have hx := HSX.out.later hc
    have kb := HKB.out.below hc
    have c3 := hx.st.cell 3 _ (stC_low _ _ 3 _ rfl)
    have c8 := hx.st.cell 8 _ (stC_low _ _ 8 _ rfl)
    have f3 := hx.st.free 3
    have f8 := hx.st.free 8
    have m1 := kb.cell 1 _ rfl
    have h0 := hx
    rw [← HL.out] at h0
    have h1 := ((h0.store 3 (.int .i64 m.frm) (n' := { n with vote := m.frm }) rfl rfl (hx.st.ok.of rfl rfl rfl)).store 8 (.int .i64 0) (n' := { n with vote := m.frm, idle := 0 }) rfl rfl (hx.st.ok.of rfl rfl rfl))
    have H0 := Lib.hid h0
    have H1 := Lib.hid h1
    clear hx kb h0 h1 hc hW
    cases hq : rf.askOk n m with
    | false =>
      have ha : rf.ask n m = (n, [rf.stamp n { rf.msg0 with kind := 2, dst := m.frm }]) := by unfold rf.ask; rw [hq]; rfl
      have HA := Lib.hid ha
      have hs := send_any { rf.msg0 with kind := 2, dst := m.frm } H0.out.st (EntsB.nil base wc) (by have := HML.out; omega)
      unfold rf.msg0 at hs
      have HS := Lib.hid hs
      clear hq ha hs
      go_wp2_with fail
      refine HS.out.mono ?_
      rintro e w9 ⟨rfl, h9⟩
      obtain ⟨A9, c9, B9, d9, h10⟩ := H0.out.call h9
      have H10 := Lib.hid h10
      clear h9 h10
      go_wp2
      go_end0
      rw [HA.out]
      exact ⟨rfl, H10.out.to⟩
    | true =>
      have ha : rf.ask n m = ({ n with vote := m.frm, idle := 0 }, [rf.stamp n { rf.msg0 with kind := 2, dst := m.frm, ok := true }]) := by unfold rf.ask; rw [hq]; rfl
      have HA := Lib.hid ha
      have m1b := (HKB.out.below (Below.refl _ X))
      have hs := send_any { rf.msg0 with kind := 2, dst := m.frm, ok := true } H1.out.st (EntsB.nil base _) (by have := HML.out; omega)
      unfold rf.msg0 at hs
      have HS := Lib.hid hs
      clear hq ha hs m1b
      go_wp2_with fail
      refine HS.out.mono ?_
      rintro e w9 ⟨rfl, h9⟩
      obtain ⟨A9, c9, B9, d9, h10⟩ := H1.out.call h9
      have H10 := Lib.hid h10
      clear h9 h10
      go_wp2
      go_end0
      rw [HA.out]
      exact ⟨rfl, H10.out.to⟩
set_option maxHeartbeats 8000000 in
theorem vote_any {base s : Nat} {w : World} {n : rf.Node} {A B : Option Addr} {c d : Nat} {ms : List rf.Msg} (m : rf.Msg) (A2 : Option Addr) (k2 c2 : Nat) (K : Nat) (hf : m.frm = (K : Int)) (hK7 : K < 7) (h : St base w s n (.slice A n.log.length c) (.slice B ms.length d) ms) (hm0 : 0 ≤ n.many) (hid : 0 ≤ n.id) (hid7 : n.id < 7) (hl : ms.length ≤ 900) (hlog : n.log.length ≤ 9990) :
    Calls Tryz.prog 63 #[.pointer (some ⟨s, 0, none⟩), msgV m (.slice A2 k2 c2)] w fun e w' => e = .returned (.tuple #[]) ∧ StTo base w s (rf.vote n m).1 (ms ++ (rf.vote n m).2) w' := by
  obtain ⟨X, bm, hX, hbm, hbX, kb⟩ := box_blk w (msgC m (.slice A2 k2 c2)) 83
  have hbs : ¬ bm = s := by have := h.blk.lt; omega
  have hbs2 : ¬ s = bm := fun e => hbs e.symm
  have hx := (Sx.start h).later hbX
  have c5 := hx.st.cell 5 _ (stC_low _ _ 5 _ rfl)
  have c2' := hx.st.cell 2 _ (stC_low _ _ 2 _ rfl)
  have m1 := kb.cell 1 _ rfl
  have m3 := kb.cell 3 _ rfl
  have m8 := kb.cell 8 _ rfl
  rw [hf] at m1
  have hv : rf.vote n m = if n.role = 1 ∧ m.term = n.term ∧ m.ok = true then rf.voted n (K : Int) else (n, []) := by unfold rf.vote; rw [hf]
  have HX := Lib.hid hX
  have HXX := Lib.hid hx
  have HKB := Lib.hid kb
  have hcall : ∀ wx, Below X.heap.size X wx → Calls Tryz.prog 80 #[.pointer (some ⟨s, 0, none⟩), .int .i64 (K : Int)] wx fun e w' => e = .returned (.tuple #[]) ∧ StTo base w s (rf.voted n (K : Int)).1 (ms ++ (rf.voted n (K : Int)).2) w' := by
    intro wx hb
    have hx' := hx.later hb
    refine (voted_any K hx'.st hK7 hm0 hid hid7 hl hlog).mono ?_
    rintro e w' ⟨rfl, h1⟩
    obtain ⟨A9, c9, B9, d9, h10⟩ := hx'.call h1
    exact ⟨rfl, h10.to⟩
  have HC := Lib.hid hcall
  have HV := Lib.hid hv
  have HF := Lib.hid hf
  clear hX hx kb h hbX hv hf hm0 hid hid7 hl hlog hcall
  unfold msgV msgC
  go_enter Tryz.func63, Tryz.ntmps63
  go_upto_region 1 with fail
  rw [show w.alloc (.cells #[.int .i64 m.kind, .int .i64 m.frm, .int .i64 m.dst, .int .u64 (m.term : Int), .int .u64 (m.index : Int), .int .u64 (m.at_ : Int), .int .u64 (m.commit : Int), .slice A2 k2 c2, .bool m.ok] 83) = X from HX.out]
  go_cut [24] (fun s24 wx => s24 = .bool (decide (n.role = 1 ∧ m.term = n.term ∧ m.ok = true)) ∧ Below X.heap.size X wx)
  case first =>
    by_cases h1 : n.role = 1
    · have f1 : (n.role == 1) = true := by rw [beq_iff_eq]; exact h1
      by_cases h2 : m.term = n.term
      · have f2 : ((m.term : Int) == (n.term : Int)) = true := by rw [beq_iff_eq]; omega
        have hq : decide (n.role = 1 ∧ m.term = n.term ∧ m.ok = true) = m.ok := by simp [h1, h2]
        have HQ := Lib.hid hq
        clear hq h1 h2
        go_wp2_with fail
        go_quiet (fail)
        go_wp2_with fail
        go_meet
        exact ⟨by rw [HQ.out], below_drewN (Below.refl _ X) nq⟩
      · have f2 : ((m.term : Int) == (n.term : Int)) = false := by rw [beq_eq_false_iff_ne]; omega
        have hq : decide (n.role = 1 ∧ m.term = n.term ∧ m.ok = true) = false := by simp [h2]
        have HQ := Lib.hid hq
        clear hq h1 h2
        go_wp2_with fail
        go_quiet (fail)
        go_wp2_with fail
        go_meet
        exact ⟨by rw [HQ.out], below_drewN (Below.refl _ X) nq⟩
    · have f1 : (n.role == 1) = false := by rw [beq_eq_false_iff_ne]; exact h1
      have hq : decide (n.role = 1 ∧ m.term = n.term ∧ m.ok = true) = false := by simp [h1]
      have HQ := Lib.hid hq
      clear hq h1
      go_wp2_with fail
      go_quiet (fail)
      go_wp2_with fail
      go_meet
      exact ⟨by rw [HQ.out], below_drewN (Below.refl _ X) nq⟩
  case rest =>
    obtain ⟨rfl, hc⟩ := hcut
    have m1 := (HKB.out.below hc).cell 1 _ rfl
    rw [HF.out] at m1
    have hx' := HXX.out.later hc
    have hcal := HC.out _ hc
    have HX2 := Lib.hid hx'
    have HC2 := Lib.hid hcal
    clear hx' hcal hc
    by_cases hq : n.role = 1 ∧ m.term = n.term ∧ m.ok = true
    · have hv := HV.out
      rw [if_pos hq] at hv
      have HV2 := Lib.hid hv
      have hd : decide (n.role = 1 ∧ m.term = n.term ∧ m.ok = true) = true := decide_eq_true hq
      rw [hd]
      clear hv hq hd
      go_wp2_with fail
      refine HC2.out.mono ?_
      rintro e w9 ⟨rfl, h9⟩
      have H9 := Lib.hid h9
      clear h9
      go_wp2
      go_end0
      rw [HV2.out]
      exact ⟨rfl, H9.out⟩
    · have hv := HV.out
      rw [if_neg hq] at hv
      have HV2 := Lib.hid hv
      have hd : decide (n.role = 1 ∧ m.term = n.term ∧ m.ok = true) = false := decide_eq_false hq
      rw [hd]
      clear hv hq hd
      go_wp2
      go_end0
      rw [HV2.out]
      exact ⟨rfl, by rw [List.append_nil]; exact HX2.out.to⟩
end Go.Proofs.YtmcibggjolckoaaGreatDoor
