/- puts to all others, tally: walked. -/
import Derived.Test.YtkoidphhlfjlhaaRfPut
namespace Go.Proofs.Ytkoidphhlfjlhaa
open Go Go.RowKit Go.Deep
set_option maxRecDepth 100000

def othersTo (n : rf.Node) (j : Nat) : List Nat := (List.range j).filter fun j => (j : Int) != n.id
theorem othersTo_no {n : rf.Node} {j : Nat} (h : (j : Int) = n.id) : othersTo n (j + 1) = othersTo n j := by
  unfold othersTo; rw [List.range_succ, List.filter_append]; simp [h]
theorem othersTo_yes {n : rf.Node} {j : Nat} (h : (j : Int) ≠ n.id) : othersTo n (j + 1) = othersTo n j ++ [j] := by
  unfold othersTo; rw [List.range_succ, List.filter_append]; simp [h]
theorem othersTo_len (n : rf.Node) (j : Nat) : (othersTo n j).length ≤ j := by
  have := List.length_filter_le (fun j : Nat => (j : Int) != n.id) (List.range j)
  simpa [othersTo] using this
/-- for each other node: what it sends -/
theorem sends_any {base s : Nat} {w : World} {n : rf.Node} {ev sv : Value} {ms : List rf.Msg} (F : Nat) (fst caps : Array Value) (f : Nat → rf.Msg) (h : St base w s n ev sv ms) (hm0 : 0 ≤ n.many) (hl : ms.length ≤ 900)
    (eg : ∀ args w, (callFunc F args).run Try.prog w = .ok (.enter F args) w)
    (K : World → Prop) (hK : K w)
    (hf : ∀ (j : Nat) (A B : Option Addr) (c d : Nat) (ms' : List rf.Msg) (w1 : World), j < 7 → ms'.length ≤ 950 → K w1 → St base w1 s n (.slice A n.log.length c) (.slice B ms'.length d) ms' →
      Calls Try.prog F (fst.push (.int .i64 (j : Int)) ++ caps) w1 (fun e w2 => e = .returned (.tuple #[]) ∧ StTo base w1 s n (ms' ++ [f j]) w2 ∧ K w2)) :
    Calls Try.prog 16 #[.pointer (some ⟨s, 0, none⟩), .func (.func F) fst caps] w fun e w' => e = .returned (.tuple #[]) ∧ StTo base w s n (ms ++ (rf.others n).map f) w' ∧ K w' := by
  obtain ⟨N, hN⟩ : ∃ N : Nat, min n.many 7 = (N : Int) := ⟨(min n.many 7).toNat, by omega⟩
  have hN7 : N ≤ 7 := by omega
  have hs : rf.size n = N := by unfold rf.size; omega
  refine (others_any (s := s) F fst caps n.id n.many N hN hN7 (fun j w1 => K w1 ∧ ∃ A B c d, Sx base w w1 s n (.slice A n.log.length c) (.slice B (ms ++ (othersTo n j).map f).length d) (ms ++ (othersTo n j).map f)) ?_ ?_ eg ?_ ?_).mono ?_
  · rintro j w1 ⟨_, A, B, c, d, hx⟩
    exact ⟨hx.st.cell 0 _ (stC_low _ _ 0 _ rfl), hx.st.cell 1 _ (stC_low _ _ 1 _ rfl)⟩
  · rintro j w1 ⟨hk, A, B, c, d, hx⟩ e
    have e2 := othersTo_no e
    exact ⟨hk, A, B, c, d, by rw [e2]; exact hx⟩
  · rintro j w1 hj hne ⟨hk, A, B, c, d, hx⟩
    have hlen := othersTo_len n j
    refine (hf j A B c d _ w1 (by omega) (by rw [List.length_append, List.length_map]; omega) hk hx.st).mono ?_
    rintro e w2 ⟨rfl, hst, hk2⟩
    obtain ⟨A2, c2, B2, d2, hx2⟩ := hx.call hst
    refine ⟨rfl, hk2, A2, B2, c2, d2, ?_⟩
    rw [othersTo_yes hne, List.map_append, ← List.append_assoc]
    exact hx2
  · obtain ⟨A, c, rfl⟩ := h.ents.form
    obtain ⟨B, d, rfl⟩ := h.sent.form
    refine ⟨hK, A, B, c, d, ?_⟩
    simp only [othersTo, List.range_zero, List.filter_nil, List.map_nil, List.append_nil]
    exact Sx.start h
  · rintro e w' ⟨rfl, hk, A, B, c, d, hx⟩
    refine ⟨rfl, ?_, hk⟩
    have : rf.others n = othersTo n N := by unfold rf.others othersTo; rw [hs]
    rw [this]
    exact hx.to
/-- what the closure of tally says of a node -/
theorem tally1_any (s g b : Nat) (k i x : Nat) (w : World) (hk : k < 7) (h1 : w.cell? ⟨b, 0, none⟩ = some (.pointer (some ⟨s, 0, none⟩))) (h2 : w.cell? ⟨g, 0, none⟩ = some (.int .u64 (i : Int))) (h3 : w.cell? ⟨s, 23 + k, none⟩ = some (.int .u64 (x : Int))) :
    Calls Try.prog 45 #[.int .i64 (k : Int), .pointer (some ⟨b, 0, none⟩), .pointer (some ⟨g, 0, none⟩)] w fun e w' => e = .returned (.bool (decide (i ≤ x))) ∧ Below w.heap.size w w' := by
  have hd : decide ((i : Int) ≤ (x : Int)) = decide (i ≤ x) := by simp
  have HB : Hid (Below w.heap.size w w.drew) := Lib.hid (below_drewN (Below.refl _ w) 1)
  go_enter Try.func45, Try.ntmps45
  go_wp2_with fail
  go_region
  all_goals
    go_wp2
    go_ret
    exact ⟨rfl, HB.out⟩
set_option maxHeartbeats 4000000 in
theorem tally_any {base s : Nat} {w : World} {n : rf.Node} {A B : Option Addr} {c d : Nat} {ms : List rf.Msg} (h : St base w s n (.slice A n.log.length c) (.slice B ms.length d) ms) (hm0 : 0 ≤ n.many) (hlog : n.log.length ≤ 10000) :
    Calls Try.prog 37 #[.pointer (some ⟨s, 0, none⟩)] w fun e w' => e = .returned (.tuple #[]) ∧ StTo base w s (rf.tally n) ms w' ∧ Only s w w' := by
  obtain ⟨L, hL⟩ : ∃ L, n.log.length = L := ⟨_, rfl⟩
  rw [hL] at h
  obtain ⟨b, hbe⟩ : ∃ b, w.heap.size = b := ⟨_, rfl⟩
  obtain ⟨X, hX⟩ : ∃ X, w.alloc (.cells #[.pointer (some ⟨s, 0, none⟩)] 58) = X := ⟨_, rfl⟩
  have hbX : Below w.heap.size w X := by rw [← hX]; exact (Below.refl _ w).alloc (Nat.le_refl _) _
  have kb : Blk X b [.pointer (some ⟨s, 0, none⟩)] 58 := by rw [← hX, ← hbe]; exact Blk.new w _ _
  have hx := (Sx.start h).later hbX
  have c0 := kb.cell 0 _ rfl
  have c2 := hx.st.cell 2 _ (stC_low _ _ 2 _ rfl)
  have c3 := hx.st.cell 3 _ (stC_low _ _ 3 _ rfl)
  have c4 := hx.st.cell 4 _ (stC_low _ _ 4 _ rfl)
  have HL := Lib.hid hL
  have HX := Lib.hid hX
  have HBX := Lib.hid hbX
  have HKB := Lib.hid kb
  have HSX := Lib.hid hx
  have HLog := Lib.hid hlog
  have HBE := Lib.hid hbe
  clear hL hX kb hx h hbX hlog
  go_enter Try.func37, Try.ntmps37
  go_upto_region 1 with fail
  rw [HX.out]
  clear hbe HX
  go_wp2_with fail
  refine (last_any n.term n.vote _ n.log X HSX.out.st.ents.1 (by have := HLog.out; omega)).mono ?_
  rintro e w1 ⟨rfl, hb1⟩
  rw [HL.out]
  have hx := HSX.out.later hb1
  have kb := HKB.out.below hb1
  clear c0 c2 c3 c4 HKB HSX
  have HSX := Lib.hid hx
  have HKB := Lib.hid kb
  have HBX := Lib.hid (HBX.out.trans (hb1.mono HBX.out.size))
  clear hx kb hb1
  go_wp2_with fail
  have hT0 : rf.tallyAt n L = rf.tally n := by unfold rf.tally; rw [HL.out]
  have HT0 := Lib.hid hT0
  clear hT0
  go_loopw [4] (fun p wr => ∃ i g : Nat, i ≤ L ∧ p = .pointer (some ⟨g, 0, none⟩) ∧ Blk wr g [.int .u64 (i : Int)] 22 ∧ rf.tallyAt n i = rf.tally n ∧ Below w1.heap.size w1 wr ∧ w1.heap.size ≤ g)
    (fun p wr => match p with | .pointer (some a) => (match wr.cell? a with | some v => (intOf v).toNat | none => 0) | _ => 0)
  case atStart => exact ⟨L, w1.heap.size, Nat.le_refl _, rfl, Blk.new w1 _ _, HT0.out, (Below.refl _ w1).alloc (Nat.le_refl _) _, Nat.le_refl _⟩
  case round =>
    obtain ⟨i, g, hi, rfl, kg, hT, hB, hg⟩ := hrel
    have hx := HSX.out.later hB
    have kb := HKB.out.below hB
    have c0 := kb.cell 0 _ rfl
    have g0 := kg.cell 0 _ rfl
    have gf := kg.free 0
    have c2 := hx.st.cell 2 _ (stC_low _ _ 2 _ rfl)
    have c3 := hx.st.cell 3 _ (stC_low _ _ 3 _ rfl)
    have c4 := hx.st.cell 4 _ (stC_low _ _ 4 _ rfl)
    have c7 := hx.st.cell 7 _ (stC_low _ _ 7 _ rfl)
    by_cases hlt : n.commit < i
    · have hd : decide ((n.commit : Int) < (i : Int)) = true := by simp; exact hlt
      obtain ⟨k, hk⟩ : ∃ k, i = k + 1 := ⟨i - 1, by omega⟩
      have hk1 : IntKind.u64.wrap ((i : Int) - 1) = (k : Int) := by rw [show (i : Int) - 1 = (k : Int) by omega]; exact wrap_u64_in (by omega) (by have := HLog.out; have := HL.out; omega)
      obtain ⟨t, is, ht⟩ : ∃ t is, rl.termAt n.log i = (t, is) := ⟨_, _, rfl⟩
      have hTk : rf.tallyAt n i = (if (t == n.term && rf.majority n (fun k => decide (i ≤ n.mat.getD k 0))) = true then { n with commit := i } else rf.tallyAt n k) := by
        subst hk
        conv => lhs; unfold rf.tallyAt
        rw [if_pos hlt, ht]
      have hx5 := hx.drew
      have kb5 : Blk wr.drew b [.pointer (some ⟨s, 0, none⟩)] 58 := kb
      have kg5 : Blk wr.drew g [.int .u64 (i : Int)] 22 := kg
      have hB5 : Below w1.heap.size w1 wr.drew := below_drewN hB 1
      have HG0 := Lib.hid g0
      have HX5 := Lib.hid hx5
      have HB5 := Lib.hid hB5
      have HKB5 := Lib.hid kb5
      have HKG5 := Lib.hid kg5
      have HT := Lib.hid hT
      have HTK := Lib.hid hTk
      have Hk := Lib.hid hk
      have Ht := Lib.hid ht
      clear hx5 kb5 kg5 hB5 hT hTk hk ht hx kb kg hB
      go_wp2_with fail
      go_region
      obtain ⟨Y, hY⟩ : ∃ Y, wr.drew = Y := ⟨_, rfl⟩
      rw [hY] at HX5 HB5 HKB5 HKG5 ⊢
      clear c0 g0 gf c2 c3 c4 c7 hd hY
      have MK : Hid (∀ w', Below Y.heap.size Y w' → w'.cell? ⟨b, 0, none⟩ = some (.pointer (some ⟨s, 0, none⟩)) ∧ w'.cell? ⟨g, 0, none⟩ = some (.int .u64 (i : Int)) ∧ w'.cell? ⟨s, 2, none⟩ = some (.int .u64 (n.term : Int)) ∧ w'.cell? ⟨s, 3, none⟩ = some (.int .i64 n.vote) ∧ w'.cell? ⟨s, 4, none⟩ = some (.slice A L c)) := Lib.hid (fun w' h => by
        have h1 := HX5.out.later h
        exact ⟨(HKB5.out.below h).cell 0 _ rfl, (HKG5.out.below h).cell 0 _ rfl, h1.st.cell 2 _ (stC_low _ _ 2 _ rfl), h1.st.cell 3 _ (stC_low _ _ 3 _ rfl), h1.st.cell 4 _ (stC_low _ _ 4 _ rfl)⟩)
      have hW : Below Y.heap.size Y Y.drew := below_drewN (Below.refl _ Y) 1
      go_wp2_with fail
      go_region_held3 (fun w' => w'.cell? ⟨b, 0, none⟩ = some (.pointer (some ⟨s, 0, none⟩)) ∧ w'.cell? ⟨g, 0, none⟩ = some (.int .u64 (i : Int)) ∧ w'.cell? ⟨s, 2, none⟩ = some (.int .u64 (n.term : Int)) ∧ w'.cell? ⟨s, 3, none⟩ = some (.int .i64 n.vote) ∧ w'.cell? ⟨s, 4, none⟩ = some (.slice A L c))
        (exact MK.out _ hW)
        (first | (go_at_call 28; refine (termAt_any n.term n.vote _ n.log i _ (HX5.out.later hW).st.ents.1 (by have := HLog.out; omega) (by have := HLog.out; have := HL.out; omega)).mono ?_; rintro e w6 ⟨rfl, hb⟩; rw [Ht.out]; have hW := hW.trans (hb.mono hW.size)))
      have hx6 := HX5.out.later hW
      have hB6 := HB5.out.trans (hW.mono HB5.out.size)
      have kb6 := HKB5.out.below hW
      have kg6 := HKG5.out.below hW
      have c0 := kb6.cell 0 _ rfl
      have g0 := kg6.cell 0 _ rfl
      have c2 := hx6.st.cell 2 _ (stC_low _ _ 2 _ rfl)
      have HX6 := Lib.hid hx6
      have HB6 := Lib.hid hB6
      have HKB6 := Lib.hid kb6
      have HKG6 := Lib.hid kg6
      clear hx6 hB6 kb6 kg6 HX5 HB5 HKB5 HKG5 hW hb MK
      have hnext : ∀ Y2 : World, Below w6.heap.size w6 Y2 → (t == n.term && rf.majority n (fun k => decide (i ≤ n.mat.getD k 0))) = false → ∃ i g' : Nat, i ≤ L ∧ Value.pointer (some ⟨Y2.heap.size, 0, none⟩) = .pointer (some ⟨g', 0, none⟩) ∧ Blk (Y2.alloc (.cells #[.int .u64 (k : Int)] 22)) g' [.int .u64 (i : Int)] 22 ∧ rf.tallyAt n i = rf.tally n ∧ Below w1.heap.size w1 (Y2.alloc (.cells #[.int .u64 (k : Int)] 22)) ∧ w1.heap.size ≤ g' := by
        intro Y2 hY2 hno
        have h2 := HB6.out.trans (hY2.mono HB6.out.size)
        have hTk := HTK.out
        rw [hno, if_neg (by simp)] at hTk
        exact ⟨k, Y2.heap.size, by have := Hk.out; omega, rfl, Blk.new Y2 _ _, by rw [← hTk]; exact HT.out, h2.alloc h2.size _, h2.size⟩
      have HN := Lib.hid hnext
      clear hnext
      have hmeas : ∀ Y2 : World, (match (Value.pointer (some ⟨Y2.heap.size, 0, none⟩)) with | .pointer (some a) => (match (Y2.alloc (.cells #[.int .u64 (k : Int)] 22)).cell? a with | some v => (intOf v).toNat | none => 0) | _ => 0) <
          (match (Value.pointer (some ⟨g, 0, none⟩)) with | .pointer (some a) => (match wr.cell? a with | some v => (intOf v).toNat | none => 0) | _ => 0) := by
        intro Y2
        have e1 := HG0.out
        have e2 : (Y2.alloc (.cells #[.int .u64 (k : Int)] 22)).cell? ⟨Y2.heap.size, 0, none⟩ = some (.int .u64 (k : Int)) := (Blk.new Y2 [.int .u64 (k : Int)] 22).cell 0 _ rfl
        simp only [e1, e2, intOf]
        have := Hk.out
        omega
      have HM := Lib.hid hmeas
      clear hmeas
      by_cases htt : t = n.term
      · have hf : ((t : Int) == (n.term : Int)) = true := by rw [beq_iff_eq]; omega
        obtain ⟨N, hN⟩ : ∃ N : Nat, min n.many 7 = (N : Int) := ⟨(min n.many 7).toNat, by omega⟩
        have hN7 : N ≤ 7 := by omega
        have hs : rf.size n = N := by unfold rf.size; omega
        have hmaj : rf.majority n (fun k => decide (i ≤ n.mat.getD k 0)) = decide (n.many < 2 * (cnt (fun k => decide (i ≤ n.mat.getD k 0)) N : Int)) := by unfold rf.majority rf.count cnt; rw [hs]
        have HMJ := Lib.hid hmaj
        have Htt := Lib.hid htt
        have HN := Lib.hid HN.out
        have HNN := Lib.hid hN
        have HN7 := Lib.hid hN7
        clear hmaj hs htt hN hN7
        go_wp2_with fail
        refine (majority_any (s := s) 45 #[.pointer (some ⟨b, 0, none⟩), .pointer (some ⟨g, 0, none⟩)] n.many N HNN.out HN7.out (fun k => decide (i ≤ n.mat.getD k 0)) (fun w' => Below w6.heap.size w6 w') ?_ (enters_any Try.func45 (by kernel_rfl) rfl) ?_ (Below.refl _ _)).mono ?_
        · intro w' h
          exact (HX6.out.later h).st.cell 1 _ (stC_low _ _ 1 _ rfl)
        · intro j w' hj h
          have hx' := HX6.out.later h
          refine (tally1_any s g b j i (n.mat.getD j 0) w' (by have := HN7.out; omega) ((HKB6.out.below h).cell 0 _ rfl) ((HKG6.out.below h).cell 0 _ rfl) (hx'.st.cell _ _ (stC_low _ _ _ _ (ndC_mat hx'.st.ok _ j (by have := HN7.out; omega))))).mono ?_
          rintro e w2 ⟨rfl, h2⟩
          exact ⟨rfl, h.trans (h2.mono h.size)⟩
        rintro e w7 ⟨rfl, h7⟩
        rw [← HMJ.out]
        have hx7 := HX6.out.later h7
        have c0 := (HKB6.out.below h7).cell 0 _ rfl
        have g0 := (HKG6.out.below h7).cell 0 _ rfl
        have f7 := hx7.st.free 7
        have c7 := hx7.st.cell 7 _ (stC_low _ _ 7 _ rfl)
        have H7 := Lib.hid h7
        have HX7 := Lib.hid hx7
        clear h7 hx7 c2
        cases hmm : rf.majority n (fun k => decide (i ≤ n.mat.getD k 0)) with
        | true =>
          have hfin : rf.tally n = { n with commit := i } := by
            rw [← HT.out, HTK.out, hmm, if_pos]
            rw [Htt.out]; simp
          have HFin := Lib.hid hfin
          have hst := HX7.out.store 7 (.int .u64 (i : Int)) (n' := { n with commit := i }) rfl rfl (HX7.out.st.ok.of rfl rfl rfl)
          have HST := Lib.hid hst
          clear hfin hst hmm
          go_wp2
          refine bodyPost_ret (results_none rfl _ _ _) rfl ?_
          rw [HFin.out]
          exact ⟨rfl, HST.out.to, (Only.below (HBX.out.trans ((HB6.out.trans (H7.out.mono HB6.out.size)).mono HBX.out.size))).set _ _⟩
        | false =>
          have hno : (t == n.term && rf.majority n (fun k => decide (i ≤ n.mat.getD k 0))) = false := by rw [hmm]; simp
          have HNO := Lib.hid hno
          clear hno hmm
          go_wp2_with fail
          go_roundw
          case rel => exact HN.out _ H7.out HNO.out
          case measure => exact HM.out _
      · have hf : ((t : Int) == (n.term : Int)) = false := by rw [beq_eq_false_iff_ne]; omega
        have hno : (t == n.term && rf.majority n (fun k => decide (i ≤ n.mat.getD k 0))) = false := by rw [beq_eq_false_iff_ne.2 htt]; rfl
        have HNO := Lib.hid hno
        clear htt hno
        go_wp2_with fail
        go_roundw
        case rel => exact HN.out _ (Below.refl _ _) HNO.out
        case measure => exact HM.out _
    · have hd : decide ((n.commit : Int) < (i : Int)) = false := by simp; omega
      have hfin : rf.tally n = n := by
        rw [← hT]
        cases i with
        | zero => rfl
        | succ i => unfold rf.tallyAt; rw [if_neg hlt]
      have HFin := Lib.hid hfin
      have HFX := Lib.hid hx.drew
      have HFB : Hid (Below w.heap.size w wr.drew) := Lib.hid (below_drewN (HBX.out.trans (hB.mono HBX.out.size)) 1)
      clear hfin hT hx kb kg hB
      go_wp2_with fail
      go_region
      all_goals
        go_wp2
        go_end0
        rw [HFin.out]
        exact ⟨rfl, HFX.out.to, Only.below HFB.out⟩
end Go.Proofs.Ytkoidphhlfjlhaa
