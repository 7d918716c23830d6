/- KfStand: one behind the other. -/
import Derived.Test.YtmcibggjolckoaaGreatDoorG17
namespace Go.Proofs.YtmcibggjolckoaaGreatDoor
open Go Go.RowKit Go.Deep
set_option maxRecDepth 100000

theorem Blk.drew {w : World} {g : Nat} {vs : List Value} {t : TypeId} (h : Blk w g vs t) : Blk w.drew g vs t := h
theorem EntsB.nil (base : Nat) (w : World) : EntsB base w (.slice none 0 0) [] :=
  ⟨⟨none, 0, rfl, Nat.le_refl _, Nat.zero_le _, fun h => absurd h (by simp)⟩, fun b o n c e h => absurd h (by simp)⟩
theorem seven {α : Type} (l : List α) (x : α) (h : l.length = 7) : (((((((l.set 0 x).set 1 x).set 2 x).set 3 x).set 4 x).set 5 x).set 6 x) = List.replicate 7 x := by
  rcases l with _ | ⟨a0, _ | ⟨a1, _ | ⟨a2, _ | ⟨a3, _ | ⟨a4, _ | ⟨a5, _ | ⟨a6, _ | ⟨a7, l⟩⟩⟩⟩⟩⟩⟩⟩ <;> simp at h
  rfl
theorem add_node (n : rf.Node) (t : List UInt8) : (rf.add n t).1.id = n.id ∧ (rf.add n t).1.many = n.many ∧ (rf.add n t).1.role = n.role ∧ (rf.add n t).1.log.length = n.log.length + 1 := by
  unfold rf.add
  dsimp only
  rw [tally_with]
  simp [rf.grown]
theorem voted_cases (n : rf.Node) (K : Nat) (h : K < 7) : (rf.voted n (K : Int) = ({ n with votes := n.votes.set K true }, [])) ∨ (rf.voted n (K : Int) = rf.lead { n with votes := n.votes.set K true }) := by
  unfold rf.voted
  rw [if_pos (by omega), Int.toNat_natCast]
  split
  · exact .inr rfl
  · exact .inl rfl
theorem voted_id (n : rf.Node) (K : Nat) (h : K < 7) : (rf.voted n (K : Int)).1.id = n.id := by
  rcases voted_cases n K h with e | e <;> rw [e]
  exact (add_node _ _).1
theorem voted_many (n : rf.Node) (K : Nat) (h : K < 7) : (rf.voted n (K : Int)).1.many = n.many := by
  rcases voted_cases n K h with e | e <;> rw [e]
  exact (add_node _ _).2.1
theorem voted_len (n : rf.Node) (K : Nat) (h : K < 7) : (rf.voted n (K : Int)).1.log.length ≤ n.log.length + 1 := by
  rcases voted_cases n K h with e | e <;> rw [e]
  · exact Nat.le_succ _
  · exact Nat.le_of_eq (add_node _ _).2.2.2
theorem puts_len (n : rf.Node) : (rf.puts n).length ≤ 7 := by
  unfold rf.puts rf.others rf.size
  rw [List.length_map]
  have := List.length_filter_le (fun j : Nat => (j : Int) != n.id) (List.range (min n.many 7).toNat)
  rw [List.length_range] at this
  omega
theorem voted_out (n : rf.Node) (K : Nat) (h : K < 7) : (rf.voted n (K : Int)).2.length ≤ 7 := by
  rcases voted_cases n K h with e | e <;> rw [e]
  · exact Nat.zero_le _
  · exact puts_len _
/-- a message of one who asks -/
def askMsg (j ix t : Nat) : rf.Msg := { rf.msg0 with kind := 1, dst := (j : Int), index := ix, at_ := t }
set_option maxHeartbeats 4000000 in
theorem stand1_any {base s : Nat} {w : World} {n : rf.Node} {ev : Value} {B : Option Addr} {d : Nat} {ms : List rf.Msg} (j b b2 b3 ix t : Nat) (h : St base w s n ev (.slice B ms.length d) ms) (h1 : w.cell? ⟨b, 0, none⟩ = some (.pointer (some ⟨s, 0, none⟩))) (h2 : w.cell? ⟨b2, 0, none⟩ = some (.int .u64 (ix : Int))) (h3 : w.cell? ⟨b3, 0, none⟩ = some (.int .u64 (t : Int))) (hl : ms.length ≤ 1000) :
    Calls Tryz.prog 81 #[.int .i64 (j : Int), .pointer (some ⟨b, 0, none⟩), .pointer (some ⟨b2, 0, none⟩), .pointer (some ⟨b3, 0, none⟩)] w fun e w' => e = .returned (.tuple #[]) ∧ StTo base w s n (ms ++ [rf.stamp n (askMsg j ix t)]) w' := by
  have HS := Lib.hid (send_any (askMsg j ix t) h (EntsB.nil base w) hl)
  clear h hl
  unfold askMsg rf.msg0 at HS
  go_enter Tryz.func81, Tryz.ntmps81
  go_wp2_with fail
  refine HS.out.mono ?_
  rintro e w2 ⟨rfl, hst⟩
  have H2 := Lib.hid hst
  clear hst
  go_wp2
  go_end0
  exact ⟨rfl, H2.out⟩
set_option maxHeartbeats 4000000 in
theorem stand_any {base s : Nat} {w : World} {n : rf.Node} {A B : Option Addr} {c d : Nat} {ms : List rf.Msg} (h : St base w s n (.slice A n.log.length c) (.slice B ms.length d) ms) (hm0 : 0 ≤ n.many) (hid : 0 ≤ n.id) (hid7 : n.id < 7) (hl : ms.length ≤ 800) (hlog : n.log.length ≤ 9990) :
    Calls Tryz.prog 60 #[.pointer (some ⟨s, 0, none⟩)] w fun e w' => e = .returned (.tuple #[]) ∧ StTo base w s (rf.stand n).1 (ms ++ (rf.stand n).2) w' := by
  obtain ⟨L, hL⟩ : ∃ L, n.log.length = L := ⟨_, rfl⟩
  rw [hL] at h
  obtain ⟨K, hK⟩ : ∃ K : Nat, n.id = (K : Int) := ⟨n.id.toNat, by omega⟩
  obtain ⟨b, hbe⟩ : ∃ b, w.heap.size = b := ⟨_, rfl⟩
  obtain ⟨X, hX⟩ : ∃ X, w.alloc (.cells #[.pointer (some ⟨s, 0, none⟩)] 91) = X := ⟨_, rfl⟩
  have hbX : Below w.heap.size w X := by rw [← hX]; exact (Below.refl _ w).alloc (Nat.le_refl _) _
  have kb : Blk X b [.pointer (some ⟨s, 0, none⟩)] 91 := by rw [← hX, ← hbe]; exact Blk.new w _ _
  have hbs : ¬ b = s := by have := h.blk.lt; omega
  have hx := (Sx.start h).later hbX
  have c0 := kb.cell 0 _ rfl
  have d0 := hx.st.cell 0 _ (stC_low _ _ 0 _ rfl)
  have c2 := hx.st.cell 2 _ (stC_low _ _ 2 _ rfl)
  have c3 := hx.st.cell 3 _ (stC_low _ _ 3 _ rfl)
  have c5 := hx.st.cell 5 _ (stC_low _ _ 5 _ rfl)
  have c6 := hx.st.cell 6 _ (stC_low _ _ 6 _ rfl)
  have c8 := hx.st.cell 8 _ (stC_low _ _ 8 _ rfl)
  have f2 := hx.st.free 2
  have f3 := hx.st.free 3
  have f5 := hx.st.free 5
  have f6 := hx.st.free 6
  have f8 := hx.st.free 8
  have v0 := hx.st.cell (9 + 0) _ (stC_low _ _ _ _ (ndC_vote hx.st.ok _ 0 (by omega)))
  have v1 := hx.st.cell (9 + 1) _ (stC_low _ _ _ _ (ndC_vote hx.st.ok _ 1 (by omega)))
  have v2 := hx.st.cell (9 + 2) _ (stC_low _ _ _ _ (ndC_vote hx.st.ok _ 2 (by omega)))
  have v3 := hx.st.cell (9 + 3) _ (stC_low _ _ _ _ (ndC_vote hx.st.ok _ 3 (by omega)))
  have v4 := hx.st.cell (9 + 4) _ (stC_low _ _ _ _ (ndC_vote hx.st.ok _ 4 (by omega)))
  have v5 := hx.st.cell (9 + 5) _ (stC_low _ _ _ _ (ndC_vote hx.st.ok _ 5 (by omega)))
  have v6 := hx.st.cell (9 + 6) _ (stC_low _ _ _ _ (ndC_vote hx.st.ok _ 6 (by omega)))
  have g0 := hx.st.free 9
  have g1 := hx.st.free 10
  have g2 := hx.st.free 11
  have g3 := hx.st.free 12
  have g4 := hx.st.free 13
  have g5 := hx.st.free 14
  have g6 := hx.st.free 15
  have hwT : IntKind.u64.wrap ((n.term : Int) + 1) = (((n.term + 1) % 18446744073709551616 : Nat) : Int) := by simp [IntKind.wrap, IntKind.bits, IntKind.signed]
  obtain ⟨T1, hT1⟩ : ∃ x, (n.term + 1) % 18446744073709551616 = x := ⟨_, rfl⟩
  rw [hT1] at hwT
  rw [hK] at d0
  have HT1 := Lib.hid hT1
  clear hT1
  have hok := hx.st.ok
  have q1 := (((hx.store 8 (.int .i64 0) (n' := { n with idle := 0 }) rfl rfl (hok.of rfl rfl rfl)).store 5 (.int .i64 1) (n' := { n with idle := 0, role := 1 }) rfl rfl (hok.of rfl rfl rfl)).store 6 (.int .i64 (-1)) (n' := { n with idle := 0, role := 1, lead := -1 }) rfl rfl (hok.of rfl rfl rfl))
  have q2 := (q1.store 2 (.int .u64 (T1 : Int)) (n' := { n with idle := 0, role := 1, lead := -1, term := T1 }) rfl rfl (hok.of rfl rfl rfl)).store 3 (.int .i64 (K : Int)) (n' := { n with idle := 0, role := 1, lead := -1, term := T1, vote := (K : Int) }) rfl rfl (hok.of rfl rfl rfl)
  have q3 := q2.store (9 + 0) (.bool false) (stC_setV q2.st.ok _ _ 0 (by omega) false) rfl (q2.st.ok.setV 0 false)
  have q4 := q3.store (9 + 1) (.bool false) (stC_setV q3.st.ok _ _ 1 (by omega) false) rfl (q3.st.ok.setV 1 false)
  have q5 := q4.store (9 + 2) (.bool false) (stC_setV q4.st.ok _ _ 2 (by omega) false) rfl (q4.st.ok.setV 2 false)
  have q6 := q5.store (9 + 3) (.bool false) (stC_setV q5.st.ok _ _ 3 (by omega) false) rfl (q5.st.ok.setV 3 false)
  have q7 := q6.store (9 + 4) (.bool false) (stC_setV q6.st.ok _ _ 4 (by omega) false) rfl (q6.st.ok.setV 4 false)
  have q8 := q7.store (9 + 5) (.bool false) (stC_setV q7.st.ok _ _ 5 (by omega) false) rfl (q7.st.ok.setV 5 false)
  have q9 := (q8.store (9 + 6) (.bool false) (stC_setV q8.st.ok _ _ 6 (by omega) false) rfl (q8.st.ok.setV 6 false)).drew.drew
  simp only [Nat.reduceAdd] at q9
  rw [seven _ _ hok.v7] at q9
  have hstood : rf.stood n = { n with idle := 0, role := 1, lead := -1, term := T1, vote := (K : Int), votes := List.replicate 7 false } := by unfold rf.stood; rw [HT1.out, hK]
  rw [← hstood] at q9
  have kq := ((((((((((((kb.other ⟨s, 8, none⟩ (.int .i64 0) hbs).other ⟨s, 5, none⟩ (.int .i64 1) hbs).other ⟨s, 6, none⟩ (.int .i64 (-1)) hbs).other ⟨s, 2, none⟩ (.int .u64 (T1 : Int)) hbs).other ⟨s, 3, none⟩ (.int .i64 (K : Int)) hbs).other ⟨s, 9, none⟩ (.bool false) hbs).other ⟨s, 10, none⟩ (.bool false) hbs).other ⟨s, 11, none⟩ (.bool false) hbs).other ⟨s, 12, none⟩ (.bool false) hbs).other ⟨s, 13, none⟩ (.bool false) hbs).other ⟨s, 14, none⟩ (.bool false) hbs).other ⟨s, 15, none⟩ (.bool false) hbs).drew.drew
  have HQ9 := Lib.hid q9
  have HKQ := Lib.hid kq
  have HSTD := Lib.hid hstood
  have HL := Lib.hid hL
  have HKK := Lib.hid hK
  have HLog : Hid (L ≤ 9990) := Lib.hid (by omega)
  have HML := Lib.hid hl
  have HM := Lib.hid hm0
  have HI7 := Lib.hid hid7
  clear q1 q2 q3 q4 q5 q6 q7 q8 q9 kq hstood hL hlog hl hm0 hid hid7 hok
  have HX := Lib.hid hX
  clear hX hx kb h hbX
  go_enter Tryz.func60, Tryz.ntmps60
  go_upto_region 1 with fail
  rw [HX.out]
  go_wp2_with fail
  go_region
  go_wp2_with fail
  go_region
  go_wp2_with fail
  obtain ⟨Y, hY⟩ : ∃ Y, ((((((((((((X.setCell ⟨s, 8, none⟩ (.int .i64 0)).setCell ⟨s, 5, none⟩ (.int .i64 1)).setCell ⟨s, 6, none⟩ (.int .i64 (-1))).setCell ⟨s, 2, none⟩ (.int .u64 (T1 : Int))).setCell ⟨s, 3, none⟩ (.int .i64 (K : Int))).setCell ⟨s, 9, none⟩ (.bool false)).setCell ⟨s, 10, none⟩ (.bool false)).setCell ⟨s, 11, none⟩ (.bool false)).setCell ⟨s, 12, none⟩ (.bool false)).setCell ⟨s, 13, none⟩ (.bool false)).setCell ⟨s, 14, none⟩ (.bool false)).setCell ⟨s, 15, none⟩ (.bool false)).drew.drew = Y := ⟨_, rfl⟩
  have hq : Sx base w Y s (rf.stood n) (.slice A L c) (.slice B ms.length d) ms := by rw [← hY]; exact HQ9.out
  have hkq : Blk Y b [.pointer (some ⟨s, 0, none⟩)] 91 := by rw [← hY]; exact HKQ.out
  rw [hY]
  clear HQ9 HKQ hY c2 c3 c5 c6 c8 f2 f3 f5 f6 f8 v0 v1 v2 v3 v4 v5 v6 g0 g1 g2 g3 g4 g5 g6 c0 d0
  have HQ := Lib.hid hq
  have HKQ := Lib.hid hkq
  clear hq hkq
  obtain ⟨m, hm⟩ : ∃ m, rf.stood n = m := ⟨_, rfl⟩
  have hmid : m.id = (K : Int) := by rw [← hm, HSTD.out]; exact HKK.out
  have hmm : m.many = n.many := by rw [← hm, HSTD.out]
  have hml : m.log.length = L := by rw [← hm, HSTD.out]; exact HL.out
  have hK7 : K < 7 := by have := HI7.out; omega
  obtain ⟨v, ov, hv⟩ : ∃ v ov, rf.voted m (K : Int) = (v, ov) := ⟨_, _, rfl⟩
  have hvid : v.id = (K : Int) := by have := voted_id m K hK7; rw [hv, hmid] at this; exact this
  have hvm : v.many = n.many := by have := voted_many m K hK7; rw [hv, hmm] at this; exact this
  have hvl : v.log.length ≤ L + 1 := by have := voted_len m K hK7; rw [hv, hml] at this; exact this
  have hvo : ov.length ≤ 7 := by have := voted_out m K hK7; rw [hv] at this; exact this
  have hstand : rf.stand n = if v.role = 2 then (v, ov) else (v, ov ++ rf.asks v) := by unfold rf.stand; rw [hm, HKK.out, hv]
  have hq := HQ.out.drew
  rw [hm, ← hml] at hq
  have hc := voted_any K hq.st hK7 (by rw [hmm]; exact HM.out) (by rw [hmid]; omega) (by rw [hmid]; omega) (by have := HML.out; omega) (by rw [hml]; exact HLog.out)
  rw [hv] at hc
  have hS0 : Y.drew.cell? ⟨b, 0, none⟩ = some (.pointer (some ⟨s, 0, none⟩)) ∧ Y.drew.cell? ⟨s, 0, none⟩ = some (.int .i64 (K : Int)) := ⟨HKQ.out.drew.cell 0 _ rfl, by have := hq.st.cell 0 _ (stC_low _ _ 0 _ rfl); rw [hmid] at this; exact this⟩
  have HC := Lib.hid hc
  have HSD := Lib.hid hstand
  have HQ2 := Lib.hid hq
  have HVI := Lib.hid hvid
  have HVM := Lib.hid hvm
  have HVL := Lib.hid hvl
  have HVO := Lib.hid hvo
  have HK7 := Lib.hid hK7
  clear hq hc hstand hv hvid hvm hvl hvo hm hmid hmm hml HQ HSTD hK7 hK hwT
  go_region_held3 (fun w' => w'.cell? ⟨b, 0, none⟩ = some (.pointer (some ⟨s, 0, none⟩)) ∧ w'.cell? ⟨s, 0, none⟩ = some (.int .i64 (K : Int)))
    (first | exact hS9 | exact hS0)
    (first | (go_at_call 80; refine HC.out.mono ?_; rintro e w9 ⟨rfl, hst⟩; have hkb9 : Blk w9 b [.pointer (some ⟨s, 0, none⟩)] 91 := (by obtain ⟨_, _, _, _, _, h2, _⟩ := hst; exact h2.blk HKQ.out.drew hbs (by decide)); have hS9 : w9.cell? ⟨b, 0, none⟩ = some (.pointer (some ⟨s, 0, none⟩)) ∧ w9.cell? ⟨s, 0, none⟩ = some (.int .i64 (K : Int)) := (by obtain ⟨_, _, _, _, h1, _, _⟩ := hst; have h3 := h1.cell 0 _ (stC_low _ _ 0 _ rfl); rw [HVI.out] at h3; exact ⟨hkb9.cell 0 _ rfl, h3⟩)))
  obtain ⟨A9, c9, B9, d9, hx9⟩ := HQ2.out.call hst
  have b0 := hkb9.cell 0 _ rfl
  have c5 := hx9.st.cell 5 _ (stC_low _ _ 5 _ rfl)
  have c2 := hx9.st.cell 2 _ (stC_low _ _ 2 _ rfl)
  have c3 := hx9.st.cell 3 _ (stC_low _ _ 3 _ rfl)
  have c4 := hx9.st.cell 4 _ (stC_low _ _ 4 _ rfl)
  have HX9 := Lib.hid hx9
  have HK9 := Lib.hid hkb9
  clear hx9 hkb9 hS9 hS0 hst
  by_cases hr : v.role = 2
  · have hrr : (v.role == 2) = true := by rw [hr]; rfl
    have hsd := HSD.out
    rw [if_pos hr] at hsd
    have HSD2 := Lib.hid hsd
    clear hsd hr
    go_wp2
    refine bodyPost_ret (results_none rfl _ _ _) rfl ?_
    rw [HSD2.out]
    exact ⟨rfl, HX9.out.to⟩
  · have hrr : (v.role == 2) = false := by rw [beq_eq_false_iff_ne]; exact hr
    have hsd := HSD.out
    rw [if_neg hr] at hsd
    have HSD2 := Lib.hid hsd
    clear hsd hr
    go_wp2_with fail
    refine (last_any v.term v.vote _ v.log _ HX9.out.st.ents.1 (by have := HVL.out; have := HLog.out; omega)).mono ?_
    rintro e w10 ⟨rfl, hb10⟩
    have hx10 := HX9.out.later hb10
    have kb10 := HK9.out.below hb10
    clear b0 c5 c2 c3 c4
    have b0 := kb10.cell 0 _ rfl
    have HX10 := Lib.hid hx10
    have HK10 := Lib.hid kb10
    obtain ⟨W2, hW2⟩ : ∃ W2, (w10.alloc (.cells #[.int .u64 (v.log.length : Int)] 28)).alloc (.cells #[.int .u64 (rl.lastTerm v.log : Int)] 28) = W2 := ⟨_, rfl⟩
    obtain ⟨g2, hg2⟩ : ∃ g2, w10.heap.size = g2 := ⟨_, rfl⟩
    have k2 : Blk W2 g2 [.int .u64 (v.log.length : Int)] 28 := by rw [← hW2, ← hg2]; exact (Blk.new w10 [.int .u64 (v.log.length : Int)] _).alloc _
    have k3 : Blk W2 (g2 + 1) [.int .u64 (rl.lastTerm v.log : Int)] 28 := by
      rw [← hW2, ← hg2]
      have h := Blk.new (w10.alloc (.cells #[.int .u64 (v.log.length : Int)] 28)) [.int .u64 (rl.lastTerm v.log : Int)] 28
      rw [World.size_alloc] at h
      exact h
    have hb12 : Below w10.heap.size w10 W2 := by rw [← hW2]; exact ((Below.refl _ w10).alloc (Nat.le_refl _) _).alloc (by simp) _
    have hx12 := hx10.later hb12
    have kb12 := kb10.below hb12
    have hsg : g2 ≠ s := by have := hx10.st.blk.lt; omega
    have hsg3 : g2 + 1 ≠ s := by have := hx10.st.blk.lt; omega
    have b1 := kb12.cell 0 _ rfl
    have HX12 := Lib.hid hx12
    have HK12 := Lib.hid kb12
    have HK2 := Lib.hid k2
    have HK3 := Lib.hid k3
    have HW2 := Lib.hid hW2
    have HS2 := Lib.hid hsg
    have HS3 := Lib.hid hsg3
    clear hx10 kb10 hb10 hx12 kb12 k2 k3 hW2 hb12 hsg hsg3
    go_upto_region 8 with fail
    rw [HW2.out]
    go_wp2_with fail
    refine (sends_any 81 #[] #[.pointer (some ⟨b, 0, none⟩), .pointer (some ⟨g2, 0, none⟩), .pointer (some ⟨g2 + 1, 0, none⟩)] (fun j => rf.stamp v (askMsg j v.log.length (rl.lastTerm v.log))) HX12.out.st (by rw [HVM.out]; exact HM.out) (by rw [List.length_append]; have := HML.out; have := HVO.out; omega) (enters_any Tryz.func81 (by kernel_rfl) rfl) (fun w' => Blk w' b [.pointer (some ⟨s, 0, none⟩)] 91 ∧ Blk w' g2 [.int .u64 (v.log.length : Int)] 28 ∧ Blk w' (g2 + 1) [.int .u64 (rl.lastTerm v.log : Int)] 28) ⟨HK12.out, HK2.out, HK3.out⟩ ?_).mono ?_
    · rintro j A B c d ms' w1 hj hl ⟨k1, k2, k3⟩ hst
      refine (stand1_any j b g2 (g2 + 1) _ _ hst (k1.cell 0 _ rfl) (k2.cell 0 _ rfl) (k3.cell 0 _ rfl) (by omega)).mono ?_
      rintro e w2 ⟨rfl, h2⟩
      refine ⟨rfl, h2, ?_⟩
      obtain ⟨_, _, _, _, _, hk, _⟩ := h2
      exact ⟨hk.blk k1 hbs (by decide), hk.blk k2 HS2.out (by decide), hk.blk k3 HS3.out (by decide)⟩
    rintro e w5 ⟨rfl, hst, _⟩
    obtain ⟨A6, c6, B6, d6, h6⟩ := HX12.out.call hst
    have H6 := Lib.hid h6
    clear h6 hst
    go_wp2
    go_end0
    rw [HSD2.out]
    refine ⟨rfl, ?_⟩
    rw [← List.append_assoc]
    exact H6.out.to
end Go.Proofs.YtmcibggjolckoaaGreatDoor
