/- add, lead: walked. -/
import Derived.Test.YtkoidphhlfjlhaaRfTally
namespace Go.Proofs.Ytkoidphhlfjlhaa
open Go Go.RowKit Go.Deep
set_option maxRecDepth 100000

theorem St.row_ne {base s : Nat} {w : World} {n : rf.Node} {ev sv : Value} {ms : List rf.Msg} (h : St base w s n ev sv ms) : ∀ k, sv.ownBlock = some k → k ≠ s := by
  intro k hk e
  subst e
  obtain ⟨evs, _, h2, _⟩ := h.sent
  exact Go.Proofs.Ytkoidphhlfjlhaa.row_ne h2 h.blk hk.symm
/-- another log is laid into the node -/
theorem Sx.setLog {base s : Nat} {w0 w : World} {n : rf.Node} {ev sv : Value} {ms : List rf.Msg} (h : Sx base w0 w s n ev sv ms) (v' : Value) (ls' : List rl.Ent) (he : EntsB base w v' ls') :
    Sx base w0 (w.setCell ⟨s, 4, none⟩ v') s { n with log := ls' } v' sv ms := by
  have hb : Below base w (w.setCell ⟨s, 4, none⟩ v') := (Below.refl _ w).setCell (p := ⟨s, 4, none⟩) h.st.sb v'
  have hk := Keeps.set s 4 w v'
  exact ⟨⟨h.st.sb, h.st.blk.set 4 v', he.keep hk hb h.st.blk, h.st.sent.keep hk hb h.st.blk (fun k hk2 => Below.heap_setCell _ _ _ k (fun e => h.st.row_ne k hk2 e)), h.st.ok.of rfl rfl rfl⟩, h.keeps.trans hk, h.below.trans hb⟩
theorem owns_below0 {w : World} {base b : Nat} {e : TypeId} {size n : Nat} {v : Value} {xs : List Value} (h : w.ownsRow b e size v n xs) (hb : base ≤ b) : w.ownsRow base e size v n xs := by
  refine ⟨h.1, ?_⟩
  rcases h.2 with h2 | ⟨g, cap, cur, h2, h3, h4⟩
  · exact .inl h2
  · exact .inr ⟨g, cap, cur, h2, Nat.le_trans hb h3, h4⟩
theorem tallyAt_with (n : rf.Node) (i : Nat) : rf.tallyAt n i = { n with commit := (rf.tallyAt n i).commit } := by
  induction i with
  | zero => rfl
  | succ i ih =>
    unfold rf.tallyAt
    split
    · split
      · rfl
      · exact ih
    · rfl
theorem tally_with (n : rf.Node) : rf.tally n = { n with commit := (rf.tally n).commit } := tallyAt_with n _
theorem tally_many (n : rf.Node) : (rf.tally n).many = n.many := by rw [tally_with]
theorem tally_log (n : rf.Node) : (rf.tally n).log = n.log := by rw [tally_with]
theorem tally_id (n : rf.Node) : (rf.tally n).id = n.id := by rw [tally_with]
theorem NOk.setV {n : rf.Node} (h : NOk n) (i : Nat) (b : Bool) : NOk { n with votes := n.votes.set i b } := ⟨by simp [h.v7], h.n7, h.m7, h.ms, h.ns⟩
theorem NOk.setN {n : rf.Node} (h : NOk n) (i x : Nat) (hx : x ≤ 1000000001) : NOk { n with next := n.next.set i x } := ⟨h.v7, by simp [h.n7], h.m7, h.ms, by
  intro y hy
  rcases List.mem_or_eq_of_mem_set hy with h1 | rfl
  · exact h.ns y h1
  · exact hx⟩
theorem NOk.setM {n : rf.Node} (h : NOk n) (i x : Nat) (hx : x ≤ 1000000000) : NOk { n with mat := n.mat.set i x } := ⟨h.v7, h.n7, by simp [h.m7], by
  intro y hy
  rcases List.mem_or_eq_of_mem_set hy with h1 | rfl
  · exact h.ms y h1
  · exact hx, h.ns⟩
set_option maxHeartbeats 4000000 in
theorem add_any {base s : Nat} {w : World} {n : rf.Node} {A B : Option Addr} {c d : Nat} {ms : List rf.Msg} (text : List UInt8) (h : St base w s n (.slice A n.log.length c) (.slice B ms.length d) ms) (hm0 : 0 ≤ n.many) (hid : 0 ≤ n.id) (hid7 : n.id < 7) (hl : ms.length ≤ 900) (hlog : n.log.length ≤ 9990) :
    Calls Try.prog 27 #[.pointer (some ⟨s, 0, none⟩), .string (crcm.mk text)] w fun e w' => e = .returned (.int .u64 (n.log.length + 1 : Nat)) ∧ StTo base w s (rf.add n text).1 (ms ++ (rf.add n text).2) w' := by
  obtain ⟨i0, hi, hz0, hz1, hz2⟩ := info_parts info_lent
  obtain ⟨L, hL⟩ : ∃ L, n.log.length = L := ⟨_, rfl⟩
  obtain ⟨K, hK⟩ : ∃ K : Nat, n.id = (K : Int) := ⟨n.id.toNat, by omega⟩
  rw [hL] at h
  have c2 := h.cell 2 _ (stC_low _ _ 2 _ rfl)
  have c4 := h.cell 4 _ (stC_low _ _ 4 _ rfl)
  have hx := Sx.start h
  have HL := Lib.hid hL
  have HX := Lib.hid hx
  have HLog := Lib.hid hlog
  have HML := Lib.hid hl
  have HKK := Lib.hid hK
  have hW9 : Below w.heap.size w w.drew := below_drewN (Below.refl _ w) 1
  have hWA : Below w.heap.size w (w.alloc (.cells #[.int .u64 (n.term : Int), .string (crcm.mk text)] 54)).drew := below_drewN ((Below.refl _ w).alloc (Nat.le_refl _) _) 1
  have d2 := (HX.out.later hWA).st.cell 2 _ (stC_low _ _ 2 _ rfl)
  have d4 := (HX.out.later hWA).st.cell 4 _ (stC_low _ _ 4 _ rfl)
  have hLL : L ≤ 9990 := by omega
  clear hL hlog hl hx h
  go_enter Try.func27, Try.ntmps27
  go_wp2_with fail
  go_cut [] (fun wx => ∃ A' c', Sx base w wx s { n with log := n.log ++ [(n.term, text)] } (.slice A' (L + 1) c') (.slice B ms.length d) ms)
  case first =>
    go_region_law (first | (refine step_append_own rfl (.tmp 14) (.tmp 23) 23 rfl w.heap.size 54 i0 _ 2 24 Try.underlying23 hi hz0 hz1 hz2 rfl (by decide) (.slice A6 L c6) L (entCells n.log) rfl (hown.alloc _) ⟨w6.heap.size, 0, none⟩ 1 1 [.int .u64 (n.term : Int), .string (crcm.mk text)] rfl rfl (cells_new2 _ _ _ _) (entCells_one [(n.term, text)]) ?_ ?_ ?_ ?_; unfold maxLen; omega; omega; (have q1 := hW9.size; simp; omega); intro v' w3 hown' hgrow'; obtain ⟨A', c', rfl⟩ := owns_slice hown'; have hfin := HX.out.later ((hW9.alloc hW9.size (.cells #[.int .u64 (n.term : Int), .string (crcm.mk text)] 54)).grown hgrow' (by have q1 := hW9.size; simp; omega) (fun j hj => (hown.lt j hj).1)); have c43 := hfin.st.cell 4 _ (stC_low _ _ 4 _ rfl); have f43 := hfin.st.free 4) | (refine step_append_own rfl (.tmp 14) (.tmp 23) 23 rfl w.heap.size 54 i0 _ 2 24 Try.underlying23 hi hz0 hz1 hz2 rfl (by decide) (.slice A6 L c6) L (entCells n.log) rfl hown ⟨w.heap.size, 0, none⟩ 1 1 [.int .u64 (n.term : Int), .string (crcm.mk text)] rfl rfl (fun j u hj => cell_later hb6 (cells_new2 w _ _ _ j u hj)) (entCells_one [(n.term, text)]) ?_ ?_ ?_ ?_; unfold maxLen; omega; omega; (have q1 := hW9.size; simp; omega); intro v' w3 hown' hgrow'; obtain ⟨A', c', rfl⟩ := owns_slice hown'; have hfin := HX.out.later (hW9.grown hgrow' (by have q1 := hW9.size; simp; omega) (fun j hj => (hown.lt j hj).1)); have c43 := hfin.st.cell 4 _ (stC_low _ _ 4 _ rfl); have f43 := hfin.st.free 4) | (go_simp; go_at_call 30; refine (clone_any A L c n.log _ (HX.out.st.ents.1.below hW9) (by have := HLog.out; omega)).mono ?_; rintro e w6 ⟨A6, c6, rfl, hown, hb6⟩; have hown := owns_below0 hown hW9.size; have hW9 := hW9.trans (hb6.mono hW9.size); rw [HL.out] at hown ⊢; have z2 := (HX.out.later hW9).st.cell 2 _ (stC_low _ _ 2 _ rfl); have z4 := (HX.out.later hW9).st.cell 4 _ (stC_low _ _ 4 _ rfl); have zf := (HX.out.later hW9).st.free 4) | (go_simp; go_at_call 30; refine (clone_any A L c n.log _ (HX.out.st.ents.1.below hWA) (by have := HLog.out; omega)).mono ?_; rintro e w6 ⟨A6, c6, rfl, hown, hb6⟩; have hown := owns_below0 hown hWA.size; have hW9 := hWA.trans (hb6.mono hWA.size); rw [HL.out] at hown ⊢; have z2 := (HX.out.later hW9).st.cell 2 _ (stC_low _ _ 2 _ rfl); have z4 := (HX.out.later hW9).st.cell 4 _ (stC_low _ _ 4 _ rfl); have zf := (HX.out.later hW9).st.free 4))
    all_goals
      have hF := hfin.setLog (.slice A' (L + 1) c') (n.log ++ [(n.term, text)]) (EntsB.of_owns (base' := w.heap.size) (by rw [entCells_append, List.length_append, HL.out]; exact hown'))
      go_wp2_with fail
      go_meet
      exact ⟨A', c', hF⟩
  case rest =>
    obtain ⟨A', c', hF⟩ := hcut
    have HF := Lib.hid hF
    clear hF d2 d4 c2 c4 hW9 hWA HX hi hz0 hz1 hz2
    obtain ⟨n1, hn1⟩ : ∃ n1, { n with log := n.log ++ [(n.term, text)] } = n1 := ⟨_, rfl⟩
    have hl1 : n1.log.length = L + 1 := by rw [← hn1, List.length_append, HL.out]; rfl
    have hid1 : n1.id = (K : Int) := by rw [← hn1]; exact HKK.out
    have hm1 : 0 ≤ n1.many := by rw [← hn1]; exact hm0
    have hgr : rf.grown n text = { n1 with mat := n1.mat.set K (L + 1), next := n1.next.set K (L + 1 + 1) } := by
      rw [← hn1]
      unfold rf.grown
      rw [HL.out, HKK.out]
      rfl
    rw [hn1] at HF
    have hx := HF.out
    have c0 := hx.st.cell 0 _ (stC_low _ _ 0 _ rfl)
    rw [hid1] at c0
    have c2 := hx.st.cell 2 _ (stC_low _ _ 2 _ rfl)
    have c3 := hx.st.cell 3 _ (stC_low _ _ 3 _ rfl)
    have c4 := hx.st.cell 4 _ (stC_low _ _ 4 _ rfl)
    have Hl1 := Lib.hid hl1
    have Hid1 := Lib.hid hid1
    have Hm1 := Lib.hid hm1
    have HGR := Lib.hid hgr
    have hK7 : K < 7 := by have := HKK.out; omega
    have HK7 := Lib.hid hK7
    have HM0 := Lib.hid hm0
    clear hx hn1 hl1 hid1 hm1 hgr hid hid7 hm0
    go_wp2_with fail
    refine (last_any n1.term n1.vote _ n1.log _ HF.out.st.ents.1 (by have := Hl1.out; omega)).mono ?_
    rw [Hl1.out]
    rintro e w2 ⟨rfl, hb2⟩
    have hx := HF.out.later hb2
    have c0 := hx.st.cell 0 _ (stC_low _ _ 0 _ rfl)
    rw [Hid1.out] at c0
    have cM := hx.st.cell (23 + K) _ (stC_low _ _ _ _ (ndC_mat hx.st.ok _ K HK7.out))
    have cN := hx.st.cell (16 + K) _ (stC_low _ _ _ _ (ndC_next hx.st.ok _ K HK7.out))
    have fM := hx.st.free (23 + K)
    have fN := hx.st.free (16 + K)
    have HX2 := Lib.hid hx
    have hwL : IntKind.u64.wrap (((L + 1 : Nat) : Int) + 1) = ((L + 1 + 1 : Nat) : Int) := by rw [show ((L + 1 : Nat) : Int) + 1 = ((L + 1 + 1 : Nat) : Int) by omega]; exact wrap_u64_in (by omega) (by omega)
    obtain ⟨L1, hL1⟩ : ∃ x, L + 1 = x := ⟨_, rfl⟩
    rw [hL1] at hwL HGR ⊢
    obtain ⟨L2, hL2⟩ : ∃ x, L1 + 1 = x := ⟨_, rfl⟩
    rw [hL2] at hwL HGR
    have HL1 := Lib.hid hL1
    have HL2 := Lib.hid hL2
    have hK0 : (0 : Int) ≤ (K : Int) := by omega
    have hKi : (K : Int) < 7 := by omega
    clear hx hb2 hL1 hL2 c2 c3 c4
    go_wp2_with fail
    go_region
    have h3 := ((HX2.out.store (23 + K) (.int .u64 (L1 : Int)) (n' := { n1 with mat := n1.mat.set K L1 }) (stC_setM HX2.out.st.ok _ _ K HK7.out L1) rfl (HX2.out.st.ok.setM K L1 (by have := HL1.out; omega))))
    have h4 := (h3.store (16 + K) (.int .u64 (L2 : Int)) (n' := { n1 with mat := n1.mat.set K L1, next := n1.next.set K L2 }) (stC_setN h3.st.ok _ _ K HK7.out L2) rfl (h3.st.ok.setN K L2 (by have := HL1.out; have := HL2.out; omega))).drew
    have hgl : (rf.grown n text).log.length = L1 := by rw [HGR.out, ← HL1.out]; exact Hl1.out
    have hgm : 0 ≤ (rf.grown n text).many := by rw [HGR.out]; exact Hm1.out
    obtain ⟨W4, hW4⟩ : ∃ W4, ((w2.setCell ⟨s, 23 + K, none⟩ (.int .u64 (L1 : Int))).setCell ⟨s, 16 + K, none⟩ (.int .u64 (L2 : Int))).drew = W4 := ⟨_, rfl⟩
    rw [hW4] at h4 ⊢
    rw [← HGR.out, HL1.out, ← hgl] at h4
    have H4 := Lib.hid h4
    have HGL := Lib.hid hgl
    have HGM := Lib.hid hgm
    clear h3 h4 hgl hgm c0 cM cN fM fN hwL
    obtain ⟨g, hg⟩ : ∃ g, rf.grown n text = g := ⟨_, rfl⟩
    have hadd : rf.add n text = (rf.tally g, rf.puts (rf.tally g)) := by unfold rf.add; rw [hg]
    rw [hg] at H4 HGL HGM
    have HADD := Lib.hid hadd
    clear hg hadd HGR
    go_wp2_with fail
    refine (tally_any H4.out.st HGM.out (by have := HGL.out; have := HL1.out; omega)).mono ?_
    rintro e w4 ⟨rfl, hst, _⟩
    obtain ⟨A4, c4, B4, d4, h5⟩ := H4.out.call hst
    have H5 := Lib.hid h5
    clear h5 hst
    go_wp2_with fail
    refine (sends_any 17 #[.pointer (some ⟨s, 0, none⟩)] #[] (fun j => rf.stamp (rf.tally g) (rf.putMsg (rf.tally g) j)) H5.out.st (by rw [tally_many]; exact HGM.out) HML.out (enters_any Try.func17 (by kernel_rfl) rfl) (fun _ => True) trivial ?_).mono ?_
    · intro j A B c d ms' w1 hj hl _ hst
      refine (put_any j hst hj (by omega) (by rw [tally_log, HGL.out]; have := HL1.out; omega)).mono ?_
      rintro e w2 ⟨rfl, h2⟩
      exact ⟨rfl, h2, trivial⟩
    rintro e w5 ⟨rfl, hst, _⟩
    obtain ⟨A6, c6, B6, d6, h6⟩ := H5.out.call hst
    have H6 := Lib.hid h6
    clear h6 hst
    go_wp2
    go_ret
    rw [HADD.out, HL.out]
    exact ⟨ret_of (slot_u64 (by have := HL1.out; omega)), H6.out.to⟩
end Go.Proofs.Ytkoidphhlfjlhaa
