/- KfAdd, KfLead: one behind the other. -/
import Derived.Test.YtmcibggjolckoaaGreatDoorG16
namespace Go.Proofs.YtmcibggjolckoaaGreatDoor
open Go Go.RowKit Go.Deep
set_option maxRecDepth 100000

theorem St.row_ne {base s : Nat} {w : World} {n : rf.Node} {ev sv : Value} {ms : List rf.Msg} (h : St base w s n ev sv ms) : ∀ k, sv.ownBlock = some k → k ≠ s := by
  intro k hk e
  subst e
  obtain ⟨evs, _, h2, _⟩ := h.sent
  exact Go.Proofs.YtmcibggjolckoaaGreatDoor.row_ne h2 h.blk hk.symm
/-- another log is laid into the node -/
theorem Sx.setLog {base s : Nat} {w0 w : World} {n : rf.Node} {ev sv : Value} {ms : List rf.Msg} (h : Sx base w0 w s n ev sv ms) (v' : Value) (ls' : List rl.Ent) (he : EntsB base w v' ls') :
    Sx base w0 (w.setCell ⟨s, 4, none⟩ v') s { n with log := ls' } v' sv ms := by
  have hb : Below base w (w.setCell ⟨s, 4, none⟩ v') := (Below.refl _ w).setCell (p := ⟨s, 4, none⟩) h.st.sb v'
  have hk := Keeps.set s 4 w v'
  exact ⟨⟨h.st.sb, h.st.blk.set 4 v', he.keep hk hb h.st.blk, h.st.sent.keep hk hb h.st.blk (fun k hk2 => Below.heap_setCell _ _ _ k (fun e => h.st.row_ne k hk2 e)), h.st.ok.of rfl rfl rfl⟩, h.keeps.trans hk, h.below.trans hb⟩
theorem owns_below0 {w : World} {base b : Nat} {e : TypeId} {size n : Nat} {v : Value} {xs : List Value} (h : w.ownsRow b e size v n xs) (hb : base ≤ b) : w.ownsRow base e size v n xs := by
  refine ⟨h.1, ?_⟩
  rcases h.2 with h2 | ⟨g, cap, cur, h2, h3, h4⟩
  · exact .inl h2
  · exact .inr ⟨g, cap, cur, h2, Nat.le_trans hb h3, h4⟩
theorem tallyAt_with (n : rf.Node) (i : Nat) : rf.tallyAt n i = { n with commit := (rf.tallyAt n i).commit } := by
  induction i with
  | zero => rfl
  | succ i ih =>
    unfold rf.tallyAt
    split
    · split
      · rfl
      · exact ih
    · rfl
theorem tally_with (n : rf.Node) : rf.tally n = { n with commit := (rf.tally n).commit } := tallyAt_with n _
theorem tally_many (n : rf.Node) : (rf.tally n).many = n.many := by rw [tally_with]
theorem tally_log (n : rf.Node) : (rf.tally n).log = n.log := by rw [tally_with]
theorem tally_id (n : rf.Node) : (rf.tally n).id = n.id := by rw [tally_with]
theorem NOk.setV {n : rf.Node} (h : NOk n) (i : Nat) (b : Bool) : NOk { n with votes := n.votes.set i b } := ⟨by simp [h.v7], h.n7, h.m7, h.ms, h.ns⟩
theorem NOk.setN {n : rf.Node} (h : NOk n) (i x : Nat) (hx : x ≤ 1000000001) : NOk { n with next := n.next.set i x } := ⟨h.v7, by simp [h.n7], h.m7, h.ms, by
  intro y hy
  rcases List.mem_or_eq_of_mem_set hy with h1 | rfl
  · exact h.ns y h1
  · exact hx⟩
theorem NOk.setM {n : rf.Node} (h : NOk n) (i x : Nat) (hx : x ≤ 1000000000) : NOk { n with mat := n.mat.set i x } := ⟨h.v7, h.n7, by simp [h.m7], by
  intro y hy
  rcases List.mem_or_eq_of_mem_set hy with h1 | rfl
  · exact h.ms y h1
  · exact hx, h.ns⟩
set_option maxHeartbeats 4000000 in
theorem add_any {base s : Nat} {w : World} {n : rf.Node} {A B : Option Addr} {c d : Nat} {ms : List rf.Msg} (text : List UInt8) (h : St base w s n (.slice A n.log.length c) (.slice B ms.length d) ms) (hm0 : 0 ≤ n.many) (hid : 0 ≤ n.id) (hid7 : n.id < 7) (hl : ms.length ≤ 900) (hlog : n.log.length ≤ 9990) :
    Calls Tryz.prog 51 #[.pointer (some ⟨s, 0, none⟩), .string (crcm.mk text)] w fun e w' => e = .returned (.int .u64 (n.log.length + 1 : Nat)) ∧ StTo base w s (rf.add n text).1 (ms ++ (rf.add n text).2) w' := by
  obtain ⟨i0, hi, hz0, hz1, hz2⟩ := info_parts info_lent
  obtain ⟨L, hL⟩ : ∃ L, n.log.length = L := ⟨_, rfl⟩
  obtain ⟨K, hK⟩ : ∃ K : Nat, n.id = (K : Int) := ⟨n.id.toNat, by omega⟩
  rw [hL] at h
  have c2 := h.cell 2 _ (stC_low _ _ 2 _ rfl)
  have c4 := h.cell 4 _ (stC_low _ _ 4 _ rfl)
  have hx := Sx.start h
  have HL := Lib.hid hL
  have HX := Lib.hid hx
  have HLog := Lib.hid hlog
  have HML := Lib.hid hl
  have HKK := Lib.hid hK
  have hW9 : Below w.heap.size w w.drew := below_drewN (Below.refl _ w) 1
  have hWA : Below w.heap.size w (w.alloc (.cells #[.int .u64 (n.term : Int), .string (crcm.mk text)] 35)).drew := below_drewN ((Below.refl _ w).alloc (Nat.le_refl _) _) 1
  have d2 := (HX.out.later hWA).st.cell 2 _ (stC_low _ _ 2 _ rfl)
  have d4 := (HX.out.later hWA).st.cell 4 _ (stC_low _ _ 4 _ rfl)
  have hLL : L ≤ 9990 := by omega
  clear hL hlog hl hx h
  go_enter Tryz.func51, Tryz.ntmps51
  go_wp2_with fail
  go_cut [] (fun wx => ∃ A' c', Sx base w wx s { n with log := n.log ++ [(n.term, text)] } (.slice A' (L + 1) c') (.slice B ms.length d) ms)
  case first =>
    go_region_law (first | (refine step_append_own rfl (.tmp 14) (.tmp 23) 32 rfl w.heap.size 35 i0 _ 2 24 Tryz.underlying32 hi hz0 hz1 hz2 rfl (by decide) (.slice A6 L c6) L (entCells n.log) rfl (hown.alloc _) ⟨w6.heap.size, 0, none⟩ 1 1 [.int .u64 (n.term : Int), .string (crcm.mk text)] rfl rfl (cells_new2 _ _ _ _) (entCells_one [(n.term, text)]) ?_ ?_ ?_ ?_; unfold maxLen; omega; omega; (have q1 := hW9.size; simp; omega); intro v' w3 hown' hgrow'; obtain ⟨A', c', rfl⟩ := owns_slice hown'; have hfin := HX.out.later ((hW9.alloc hW9.size (.cells #[.int .u64 (n.term : Int), .string (crcm.mk text)] 35)).grown hgrow' (by have q1 := hW9.size; simp; omega) (fun j hj => (hown.lt j hj).1)); have c43 := hfin.st.cell 4 _ (stC_low _ _ 4 _ rfl); have f43 := hfin.st.free 4) | (refine step_append_own rfl (.tmp 14) (.tmp 23) 32 rfl w.heap.size 35 i0 _ 2 24 Tryz.underlying32 hi hz0 hz1 hz2 rfl (by decide) (.slice A6 L c6) L (entCells n.log) rfl hown ⟨w.heap.size, 0, none⟩ 1 1 [.int .u64 (n.term : Int), .string (crcm.mk text)] rfl rfl (fun j u hj => cell_later hb6 (cells_new2 w _ _ _ j u hj)) (entCells_one [(n.term, text)]) ?_ ?_ ?_ ?_; unfold maxLen; omega; omega; (have q1 := hW9.size; simp; omega); intro v' w3 hown' hgrow'; obtain ⟨A', c', rfl⟩ := owns_slice hown'; have hfin := HX.out.later (hW9.grown hgrow' (by have q1 := hW9.size; simp; omega) (fun j hj => (hown.lt j hj).1)); have c43 := hfin.st.cell 4 _ (stC_low _ _ 4 _ rfl); have f43 := hfin.st.free 4) | (go_simp; go_at_call 36; refine (clone_any A L c n.log _ (HX.out.st.ents.1.below hW9) (by have := HLog.out; omega)).mono ?_; rintro e w6 ⟨A6, c6, rfl, hown, hb6⟩; have hown := owns_below0 hown hW9.size; have hW9 := hW9.trans (hb6.mono hW9.size); rw [HL.out] at hown ⊢; have z2 := (HX.out.later hW9).st.cell 2 _ (stC_low _ _ 2 _ rfl); have z4 := (HX.out.later hW9).st.cell 4 _ (stC_low _ _ 4 _ rfl); have zf := (HX.out.later hW9).st.free 4) | (go_simp; go_at_call 36; refine (clone_any A L c n.log _ (HX.out.st.ents.1.below hWA) (by have := HLog.out; omega)).mono ?_; rintro e w6 ⟨A6, c6, rfl, hown, hb6⟩; have hown := owns_below0 hown hWA.size; have hW9 := hWA.trans (hb6.mono hWA.size); rw [HL.out] at hown ⊢; have z2 := (HX.out.later hW9).st.cell 2 _ (stC_low _ _ 2 _ rfl); have z4 := (HX.out.later hW9).st.cell 4 _ (stC_low _ _ 4 _ rfl); have zf := (HX.out.later hW9).st.free 4))
    all_goals
      have hF := hfin.setLog (.slice A' (L + 1) c') (n.log ++ [(n.term, text)]) (EntsB.of_owns (base' := w.heap.size) (by rw [entCells_append, List.length_append, HL.out]; exact hown'))
      go_wp2_with fail
      go_meet
      exact ⟨A', c', hF⟩
  case rest =>
    obtain ⟨A', c', hF⟩ := hcut
    have HF := Lib.hid hF
    clear hF d2 d4 c2 c4 hW9 hWA HX hi hz0 hz1 hz2
    obtain ⟨n1, hn1⟩ : ∃ n1, { n with log := n.log ++ [(n.term, text)] } = n1 := ⟨_, rfl⟩
    have hl1 : n1.log.length = L + 1 := by rw [← hn1, List.length_append, HL.out]; rfl
    have hid1 : n1.id = (K : Int) := by rw [← hn1]; exact HKK.out
    have hm1 : 0 ≤ n1.many := by rw [← hn1]; exact hm0
    have hgr : rf.grown n text = { n1 with mat := n1.mat.set K (L + 1), next := n1.next.set K (L + 1 + 1) } := by
      rw [← hn1]
      unfold rf.grown
      rw [HL.out, HKK.out]
      rfl
    rw [hn1] at HF
    have hx := HF.out
    have c0 := hx.st.cell 0 _ (stC_low _ _ 0 _ rfl)
    rw [hid1] at c0
    have c2 := hx.st.cell 2 _ (stC_low _ _ 2 _ rfl)
    have c3 := hx.st.cell 3 _ (stC_low _ _ 3 _ rfl)
    have c4 := hx.st.cell 4 _ (stC_low _ _ 4 _ rfl)
    have Hl1 := Lib.hid hl1
    have Hid1 := Lib.hid hid1
    have Hm1 := Lib.hid hm1
    have HGR := Lib.hid hgr
    have hK7 : K < 7 := by have := HKK.out; omega
    have HK7 := Lib.hid hK7
    have HM0 := Lib.hid hm0
    clear hx hn1 hl1 hid1 hm1 hgr hid hid7 hm0
    go_wp2_with fail
    refine (last_any n1.term n1.vote _ n1.log _ HF.out.st.ents.1 (by have := Hl1.out; omega)).mono ?_
    rw [Hl1.out]
    rintro e w2 ⟨rfl, hb2⟩
    have hx := HF.out.later hb2
    have c0 := hx.st.cell 0 _ (stC_low _ _ 0 _ rfl)
    rw [Hid1.out] at c0
    have cM := hx.st.cell (23 + K) _ (stC_low _ _ _ _ (ndC_mat hx.st.ok _ K HK7.out))
    have cN := hx.st.cell (16 + K) _ (stC_low _ _ _ _ (ndC_next hx.st.ok _ K HK7.out))
    have fM := hx.st.free (23 + K)
    have fN := hx.st.free (16 + K)
    have HX2 := Lib.hid hx
    have hwL : IntKind.u64.wrap (((L + 1 : Nat) : Int) + 1) = ((L + 1 + 1 : Nat) : Int) := by rw [show ((L + 1 : Nat) : Int) + 1 = ((L + 1 + 1 : Nat) : Int) by omega]; exact wrap_u64_in (by omega) (by omega)
    obtain ⟨L1, hL1⟩ : ∃ x, L + 1 = x := ⟨_, rfl⟩
    rw [hL1] at hwL HGR ⊢
    obtain ⟨L2, hL2⟩ : ∃ x, L1 + 1 = x := ⟨_, rfl⟩
    rw [hL2] at hwL HGR
    have HL1 := Lib.hid hL1
    have HL2 := Lib.hid hL2
    have hK0 : (0 : Int) ≤ (K : Int) := by omega
    have hKi : (K : Int) < 7 := by omega
    clear hx hb2 hL1 hL2 c2 c3 c4
    go_wp2_with fail
    go_region
    have h3 := ((HX2.out.store (23 + K) (.int .u64 (L1 : Int)) (n' := { n1 with mat := n1.mat.set K L1 }) (stC_setM HX2.out.st.ok _ _ K HK7.out L1) rfl (HX2.out.st.ok.setM K L1 (by have := HL1.out; omega))))
    have h4 := (h3.store (16 + K) (.int .u64 (L2 : Int)) (n' := { n1 with mat := n1.mat.set K L1, next := n1.next.set K L2 }) (stC_setN h3.st.ok _ _ K HK7.out L2) rfl (h3.st.ok.setN K L2 (by have := HL1.out; have := HL2.out; omega))).drew
    have hgl : (rf.grown n text).log.length = L1 := by rw [HGR.out, ← HL1.out]; exact Hl1.out
    have hgm : 0 ≤ (rf.grown n text).many := by rw [HGR.out]; exact Hm1.out
    obtain ⟨W4, hW4⟩ : ∃ W4, ((w2.setCell ⟨s, 23 + K, none⟩ (.int .u64 (L1 : Int))).setCell ⟨s, 16 + K, none⟩ (.int .u64 (L2 : Int))).drew = W4 := ⟨_, rfl⟩
    rw [hW4] at h4 ⊢
    rw [← HGR.out, HL1.out, ← hgl] at h4
    have H4 := Lib.hid h4
    have HGL := Lib.hid hgl
    have HGM := Lib.hid hgm
    clear h3 h4 hgl hgm c0 cM cN fM fN hwL
    obtain ⟨g, hg⟩ : ∃ g, rf.grown n text = g := ⟨_, rfl⟩
    have hadd : rf.add n text = (rf.tally g, rf.puts (rf.tally g)) := by unfold rf.add; rw [hg]
    rw [hg] at H4 HGL HGM
    have HADD := Lib.hid hadd
    clear hg hadd HGR
    go_wp2_with fail
    refine (tally_any H4.out.st HGM.out (by have := HGL.out; have := HL1.out; omega)).mono ?_
    rintro e w4 ⟨rfl, hst, _⟩
    obtain ⟨A4, c4, B4, d4, h5⟩ := H4.out.call hst
    have H5 := Lib.hid h5
    clear h5 hst
    go_wp2_with fail
    refine (sends_any 58 #[.pointer (some ⟨s, 0, none⟩)] #[] (fun j => rf.stamp (rf.tally g) (rf.putMsg (rf.tally g) j)) H5.out.st (by rw [tally_many]; exact HGM.out) HML.out (enters_any Tryz.func58 (by kernel_rfl) rfl) (fun _ => True) trivial ?_).mono ?_
    · intro j A B c d ms' w1 hj hl _ hst
      refine (kput_any j hst hj (by omega) (by rw [tally_log, HGL.out]; have := HL1.out; omega)).mono ?_
      rintro e w2 ⟨rfl, h2⟩
      exact ⟨rfl, h2, trivial⟩
    rintro e w5 ⟨rfl, hst, _⟩
    obtain ⟨A6, c6, B6, d6, h6⟩ := H5.out.call hst
    have H6 := Lib.hid h6
    clear h6 hst
    go_wp2
    go_ret
    rw [HADD.out, HL.out]
    exact ⟨ret_of (slot_u64 (by have := HL1.out; omega)), H6.out.to⟩
end Go.Proofs.YtmcibggjolckoaaGreatDoor
namespace Go.Proofs.YtmcibggjolckoaaGreatDoor
open Go Go.RowKit Go.Deep
set_option maxRecDepth 100000

def fillTo {α : Type} (x : α) (l : List α) (j : Nat) : List α := List.replicate j x ++ l.drop j
theorem fillTo_set {α : Type} (x : α) (l : List α) (j : Nat) (h : j < l.length) : (fillTo x l j).set j x = fillTo x l (j + 1) := by
  unfold fillTo
  rw [List.set_append_right _ _ (by simp), List.length_replicate, Nat.sub_self, List.drop_eq_getElem_cons h, List.set_cons_zero, List.replicate_succ', List.append_assoc]
  rfl
theorem fillTo_len {α : Type} (x : α) (l : List α) (j : Nat) (h : j ≤ l.length) : (fillTo x l j).length = l.length := by
  unfold fillTo; simp; omega
theorem fillTo_all {α : Type} (x : α) (l : List α) (j : Nat) (h : l.length ≤ j) : fillTo x l j = List.replicate j x := by
  unfold fillTo; rw [List.drop_eq_nil_of_le h, List.append_nil]
def ledTo (n : rf.Node) (L1 j : Nat) : rf.Node := { n with role := 2, lead := n.id, idle := 0, next := fillTo L1 n.next j, mat := fillTo 0 n.mat j }
theorem ledTo_all {n : rf.Node} (h : NOk n) : ledTo n (n.log.length + 1) 7 = rf.led n := by
  unfold ledTo rf.led
  rw [fillTo_all _ _ _ (by rw [h.n7]; exact Nat.le_refl _), fillTo_all _ _ _ (by rw [h.m7]; exact Nat.le_refl _)]
set_option maxHeartbeats 4000000 in
theorem lead_any {base s : Nat} {w : World} {n : rf.Node} {A B : Option Addr} {c d : Nat} {ms : List rf.Msg} (h : St base w s n (.slice A n.log.length c) (.slice B ms.length d) ms) (hm0 : 0 ≤ n.many) (hid : 0 ≤ n.id) (hid7 : n.id < 7) (hl : ms.length ≤ 900) (hlog : n.log.length ≤ 9990) :
    Calls Tryz.prog 104 #[.pointer (some ⟨s, 0, none⟩)] w fun e w' => e = .returned (.tuple #[]) ∧ StTo base w s (rf.lead n).1 (ms ++ (rf.lead n).2) w' := by
  obtain ⟨L, hL⟩ : ∃ L, n.log.length = L := ⟨_, rfl⟩
  rw [hL] at h
  have c2 := h.cell 2 _ (stC_low _ _ 2 _ rfl)
  have c3 := h.cell 3 _ (stC_low _ _ 3 _ rfl)
  have c4 := h.cell 4 _ (stC_low _ _ 4 _ rfl)
  have HH := Lib.hid h
  have HL := Lib.hid hL
  have HLog := Lib.hid hlog
  have HML := Lib.hid hl
  have HI := Lib.hid hid
  have HI7 := Lib.hid hid7
  have HM := Lib.hid hm0
  have hlL : L ≤ 9990 := by omega
  clear hL h hlog hl hid hid7 hm0
  go_enter Tryz.func104, Tryz.ntmps104
  go_wp2_with fail
  refine (last_any n.term n.vote _ n.log _ HH.out.ents.1 (by have := HLog.out; omega)).mono ?_
  rw [HL.out]
  rintro e w1 ⟨rfl, hb⟩
  have hx := (Sx.start HH.out).later hb
  clear c2 c3 c4
  have c0 := hx.st.cell 0 _ (stC_low _ _ 0 _ rfl)
  have c5 := hx.st.cell 5 _ (stC_low _ _ 5 _ rfl)
  have c6 := hx.st.cell 6 _ (stC_low _ _ 6 _ rfl)
  have c8 := hx.st.cell 8 _ (stC_low _ _ 8 _ rfl)
  have f5 := hx.st.free 5
  have f6 := hx.st.free 6
  have f8 := hx.st.free 8
  have h0 := ((hx.store 5 (.int .i64 2) (n' := { n with role := 2 }) rfl rfl (hx.st.ok.of rfl rfl rfl)).store 6 (.int .i64 n.id) (n' := { n with role := 2, lead := n.id }) rfl rfl (hx.st.ok.of rfl rfl rfl)).store 8 (.int .i64 0) (n' := ledTo n (L + 1) 0) rfl rfl (hx.st.ok.of rfl rfl rfl)
  have H0 := Lib.hid h0
  have hwL : IntKind.u64.wrap ((L : Int) + 1) = ((L + 1 : Nat) : Int) := by rw [show (L : Int) + 1 = ((L + 1 : Nat) : Int) by omega]; exact wrap_u64_in (by omega) (by omega)
  obtain ⟨L1, hL1⟩ : ∃ x, L + 1 = x := ⟨_, rfl⟩
  rw [hL1] at hwL H0
  have HL1 := Lib.hid hL1
  have HOK := Lib.hid hx.st.ok
  clear h0 hx hb hL1
  go_wp2_with fail
  go_loopw [31] (fun i wr => ∃ j : Nat, j ≤ 7 ∧ i = .int .i64 j ∧ Sx base w wr s (ledTo n L1 j) (.slice A L c) (.slice B ms.length d) ms) (fun i _ => 7 - (intOf i).toNat)
  case atStart => exact ⟨0, by omega, rfl, H0.out⟩
  case round =>
    obtain ⟨j, hj, rfl, hx⟩ := hrel
    by_cases hlt : j < 7
    · have hok := hx.st.ok
      have cM := hx.st.cell (23 + j) _ (stC_low _ _ _ _ (ndC_mat hok _ j hlt))
      have cN := hx.st.cell (16 + j) _ (stC_low _ _ _ _ (ndC_next hok _ j hlt))
      have fM := hx.st.free (23 + j)
      have fN := hx.st.free (16 + j)
      have h1 := hx.store (16 + j) (.int .u64 (L1 : Int)) (stC_setN hok _ _ j hlt L1) rfl (hok.setN j L1 (by have := HL1.out; omega))
      have h2 := (h1.store (23 + j) (.int .u64 ((0 : Nat) : Int)) (n' := ledTo n L1 (j + 1)) ((stC_setM h1.st.ok _ _ j hlt 0).trans (by
        congr 1
        unfold ledTo
        dsimp only
        rw [fillTo_set _ _ _ (by rw [HOK.out.n7]; exact hlt), fillTo_set _ _ _ (by rw [HOK.out.m7]; exact hlt)])) rfl ⟨HOK.out.v7, by unfold ledTo; dsimp only; rw [fillTo_len _ _ _ (by rw [HOK.out.n7]; exact hlt)]; exact HOK.out.n7, by unfold ledTo; dsimp only; rw [fillTo_len _ _ _ (by rw [HOK.out.m7]; exact hlt)]; exact HOK.out.m7, by
          intro x hx2
          unfold ledTo fillTo at hx2
          dsimp only at hx2
          rcases List.mem_append.1 hx2 with h3 | h3
          · rw [List.eq_of_mem_replicate h3]; omega
          · exact HOK.out.ms x (List.mem_of_mem_drop h3), by
          intro x hx2
          unfold ledTo fillTo at hx2
          dsimp only at hx2
          rcases List.mem_append.1 hx2 with h3 | h3
          · rw [List.eq_of_mem_replicate h3]; have := HL1.out; omega
          · exact HOK.out.ns x (List.mem_of_mem_drop h3)⟩)
      have H2 := Lib.hid h2.drew
      have hj7 : (j : Int) < 7 := by omega
      clear hx hok h1 h2
      go_wp2_with fail
      go_region
      all_goals
        go_wp2_with fail
        go_roundw
        case rel => exact ⟨j + 1, by omega, by go_num, H2.out⟩
        case measure => simp [intOf]; omega
    · obtain rfl : j = 7 := by omega
      have hled : ledTo n L1 7 = rf.led n := by rw [← HL1.out, ← HL.out]; exact ledTo_all HOK.out
      rw [hled] at hx
      have hst := hx
      rw [show L = (rf.led n).log.length from HL.out.symm] at hst
      have HST := Lib.hid hst
      clear hx hst hled
      go_wp2_with fail
      refine (add_any [] HST.out.st HM.out HI.out HI7.out HML.out (by have := HLog.out; exact this)).mono ?_
      rintro e w9 ⟨rfl, h9⟩
      obtain ⟨A9, c9, B9, d9, h10⟩ := HST.out.call h9
      have H10 := Lib.hid h10
      clear h9 h10
      go_wp2
      go_end0
      exact ⟨rfl, H10.out.to⟩
theorem voted1_any (s b : Nat) (k : Nat) (x : Bool) (w : World) (hk : k < 7) (h1 : w.cell? ⟨b, 0, none⟩ = some (.pointer (some ⟨s, 0, none⟩))) (h3 : w.cell? ⟨s, 9 + k, none⟩ = some (.bool x)) :
    Calls Tryz.prog 103 #[.int .i64 (k : Int), .pointer (some ⟨b, 0, none⟩)] w fun e w' => e = .returned (.bool x) ∧ w = w' := by
  go_enter Tryz.func103, Tryz.ntmps103
  go_wp2
  go_ret
  exact ⟨rfl, rfl⟩
set_option maxHeartbeats 4000000 in
theorem voted_any {base s : Nat} {w : World} {n : rf.Node} {A B : Option Addr} {c d : Nat} {ms : List rf.Msg} (K : Nat) (h : St base w s n (.slice A n.log.length c) (.slice B ms.length d) ms) (hK7 : K < 7) (hm0 : 0 ≤ n.many) (hid : 0 ≤ n.id) (hid7 : n.id < 7) (hl : ms.length ≤ 900) (hlog : n.log.length ≤ 9990) :
    Calls Tryz.prog 80 #[.pointer (some ⟨s, 0, none⟩), .int .i64 (K : Int)] w fun e w' => e = .returned (.tuple #[]) ∧ StTo base w s (rf.voted n (K : Int)).1 (ms ++ (rf.voted n (K : Int)).2) w' := by
  obtain ⟨n1, hn1⟩ : ∃ n1, { n with votes := n.votes.set K true } = n1 := ⟨_, rfl⟩
  have hv : rf.voted n (K : Int) = (if rf.elected n1 = true then rf.lead n1 else (n1, [])) := by
    unfold rf.voted
    rw [if_pos (by omega), Int.toNat_natCast, hn1]
  obtain ⟨L, hL⟩ : ∃ L, n.log.length = L := ⟨_, rfl⟩
  rw [hL] at h
  obtain ⟨b, hbe⟩ : ∃ b, w.heap.size = b := ⟨_, rfl⟩
  obtain ⟨X, hX⟩ : ∃ X, w.alloc (.cells #[.pointer (some ⟨s, 0, none⟩)] 91) = X := ⟨_, rfl⟩
  have hbX : Below w.heap.size w X := by rw [← hX]; exact (Below.refl _ w).alloc (Nat.le_refl _) _
  have kb : Blk X b [.pointer (some ⟨s, 0, none⟩)] 91 := by rw [← hX, ← hbe]; exact Blk.new w _ _
  have hbs : b ≠ s := by have := h.blk.lt; omega
  have hx := (Sx.start h).later hbX
  have c0 := kb.cell 0 _ rfl
  have cV := hx.st.cell (9 + K) _ (stC_low _ _ _ _ (ndC_vote hx.st.ok _ K hK7))
  have fV := hx.st.free (9 + K)
  have hx1 := hx.store (9 + K) (.bool true) (n' := n1) (by rw [← hn1]; exact stC_setV hx.st.ok _ _ K hK7 true) (by rw [← hn1]) (by rw [← hn1]; exact hx.st.ok.setV K true)
  have kb1 := kb.other ⟨s, 9 + K, none⟩ (.bool true) hbs
  have hbs' : ¬ b = s := hbs
  have hk0 : (0 : Int) ≤ (K : Int) := by omega
  have hk7 : (K : Int) < 7 := by omega
  have d0 : decide ((K : Int) < 0) = false := by simp
  have d7 : decide ((7 : Int) ≤ (K : Int)) = false := by simp; omega
  have hmany : n1.many = n.many := by rw [← hn1]
  have hid1 : n1.id = n.id := by rw [← hn1]
  have hlog1 : n1.log.length = L := by rw [← hn1]; exact hL
  obtain ⟨N, hN⟩ : ∃ N : Nat, min n1.many 7 = (N : Int) := ⟨(min n1.many 7).toNat, by omega⟩
  have hN7 : N ≤ 7 := by omega
  have hs : rf.size n1 = N := by unfold rf.size; omega
  have hmaj : rf.elected n1 = decide (n1.many < 2 * (cnt (fun k => n1.votes.getD k false) N : Int)) := by unfold rf.elected rf.majority rf.count cnt; rw [hs]
  have HMJ := Lib.hid hmaj
  have HX := Lib.hid hX
  have HX1 := Lib.hid hx1
  have HKB := Lib.hid kb1
  have HV := Lib.hid hv
  have HN := Lib.hid hN
  have HN7 := Lib.hid hN7
  have HLL := Lib.hid hlog1
  have HID := Lib.hid hid
  have HID7 := Lib.hid hid7
  have HID1 := Lib.hid hid1
  have HM := Lib.hid hm0
  have HMN := Lib.hid hmany
  have HML := Lib.hid hl
  have HLog : Hid (L ≤ 9990) := Lib.hid (by omega)
  clear hmaj hX hx1 kb1 hv hN hN7 hlog1 hid hid7 hid1 hm0 hmany hl hlog hx kb h hbX hn1 hL hs hbs
  go_enter Tryz.func80, Tryz.ntmps80
  go_upto_region 1 with fail
  rw [HX.out]
  go_wp2_with fail
  obtain ⟨Y, hY⟩ : ∃ Y, X.setCell ⟨s, 9 + K, none⟩ (.bool true) = Y := ⟨_, rfl⟩
  rw [hY] at HX1 HKB ⊢
  refine (majority_any (s := s) 103 #[.pointer (some ⟨b, 0, none⟩)] n1.many N HN.out HN7.out (fun k => n1.votes.getD k false) (fun w' => Y = w') ?_ (enters_any Tryz.func103 (by kernel_rfl) rfl) ?_ rfl).mono ?_
  · rintro w' rfl
    exact HX1.out.st.cell 1 _ (stC_low _ _ 1 _ rfl)
  · rintro j w' hj rfl
    exact voted1_any s b j _ Y (by have := HN7.out; omega) (HKB.out.cell 0 _ rfl) (HX1.out.st.cell _ _ (stC_low _ _ _ _ (ndC_vote HX1.out.st.ok _ j (by have := HN7.out; omega))))
  rintro e w2 ⟨rfl, rfl⟩
  rw [← HMJ.out]
  clear hY cV fV c0
  have c0 := HKB.out.cell 0 _ rfl
  cases he : rf.elected n1 with
  | false =>
    have hv := HV.out
    rw [he, if_neg (by simp)] at hv
    have HV2 := Lib.hid hv
    clear hv he
    go_wp2
    go_end0
    rw [HV2.out]
    exact ⟨rfl, by rw [List.append_nil]; exact HX1.out.to⟩
  | true =>
    have hv := HV.out
    rw [he, if_pos rfl] at hv
    have HV2 := Lib.hid hv
    clear hv he
    have h2 := HX1.out
    rw [← HLL.out] at h2
    have H2 := Lib.hid h2
    clear h2
    go_wp2_with fail
    refine (lead_any H2.out.st (by rw [HMN.out]; exact HM.out) (by rw [HID1.out]; exact HID.out) (by rw [HID1.out]; exact HID7.out) HML.out (by rw [HLL.out]; exact HLog.out)).mono ?_
    rintro e w9 ⟨rfl, h9⟩
    obtain ⟨A9, c9, B9, d9, h10⟩ := H2.out.call h9
    have H10 := Lib.hid h10
    clear h9 h10
    go_wp2
    go_end0
    rw [HV2.out]
    exact ⟨rfl, H10.out.to⟩
end Go.Proofs.YtmcibggjolckoaaGreatDoor
