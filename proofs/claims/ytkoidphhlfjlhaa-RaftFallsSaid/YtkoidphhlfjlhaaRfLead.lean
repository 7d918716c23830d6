/- lead, voted, stand: walked. -/
import Derived.Test.YtkoidphhlfjlhaaRfAdd
namespace Go.Proofs.Ytkoidphhlfjlhaa
open Go Go.RowKit Go.Deep
set_option maxRecDepth 100000

def fillTo {α : Type} (x : α) (l : List α) (j : Nat) : List α := List.replicate j x ++ l.drop j
theorem fillTo_set {α : Type} (x : α) (l : List α) (j : Nat) (h : j < l.length) : (fillTo x l j).set j x = fillTo x l (j + 1) := by
  unfold fillTo
  rw [List.set_append_right _ _ (by simp), List.length_replicate, Nat.sub_self, List.drop_eq_getElem_cons h, List.set_cons_zero, List.replicate_succ', List.append_assoc]
  rfl
theorem fillTo_len {α : Type} (x : α) (l : List α) (j : Nat) (h : j ≤ l.length) : (fillTo x l j).length = l.length := by
  unfold fillTo; simp; omega
theorem fillTo_all {α : Type} (x : α) (l : List α) (j : Nat) (h : l.length ≤ j) : fillTo x l j = List.replicate j x := by
  unfold fillTo; rw [List.drop_eq_nil_of_le h, List.append_nil]
def ledTo (n : rf.Node) (L1 j : Nat) : rf.Node := { n with role := 2, lead := n.id, idle := 0, next := fillTo L1 n.next j, mat := fillTo 0 n.mat j }
theorem ledTo_all {n : rf.Node} (h : NOk n) : ledTo n (n.log.length + 1) 7 = rf.led n := by
  unfold ledTo rf.led
  rw [fillTo_all _ _ _ (by rw [h.n7]; exact Nat.le_refl _), fillTo_all _ _ _ (by rw [h.m7]; exact Nat.le_refl _)]
set_option maxHeartbeats 4000000 in
theorem lead_any {base s : Nat} {w : World} {n : rf.Node} {A B : Option Addr} {c d : Nat} {ms : List rf.Msg} (h : St base w s n (.slice A n.log.length c) (.slice B ms.length d) ms) (hm0 : 0 ≤ n.many) (hid : 0 ≤ n.id) (hid7 : n.id < 7) (hl : ms.length ≤ 900) (hlog : n.log.length ≤ 9990) :
    Calls Try.prog 40 #[.pointer (some ⟨s, 0, none⟩)] w fun e w' => e = .returned (.tuple #[]) ∧ StTo base w s (rf.lead n).1 (ms ++ (rf.lead n).2) w' := by
  obtain ⟨L, hL⟩ : ∃ L, n.log.length = L := ⟨_, rfl⟩
  rw [hL] at h
  have c2 := h.cell 2 _ (stC_low _ _ 2 _ rfl)
  have c3 := h.cell 3 _ (stC_low _ _ 3 _ rfl)
  have c4 := h.cell 4 _ (stC_low _ _ 4 _ rfl)
  have HH := Lib.hid h
  have HL := Lib.hid hL
  have HLog := Lib.hid hlog
  have HML := Lib.hid hl
  have HI := Lib.hid hid
  have HI7 := Lib.hid hid7
  have HM := Lib.hid hm0
  have hlL : L ≤ 9990 := by omega
  clear hL h hlog hl hid hid7 hm0
  go_enter Try.func40, Try.ntmps40
  go_wp2_with fail
  refine (last_any n.term n.vote _ n.log _ HH.out.ents.1 (by have := HLog.out; omega)).mono ?_
  rw [HL.out]
  rintro e w1 ⟨rfl, hb⟩
  have hx := (Sx.start HH.out).later hb
  clear c2 c3 c4
  have c0 := hx.st.cell 0 _ (stC_low _ _ 0 _ rfl)
  have c5 := hx.st.cell 5 _ (stC_low _ _ 5 _ rfl)
  have c6 := hx.st.cell 6 _ (stC_low _ _ 6 _ rfl)
  have c8 := hx.st.cell 8 _ (stC_low _ _ 8 _ rfl)
  have f5 := hx.st.free 5
  have f6 := hx.st.free 6
  have f8 := hx.st.free 8
  have h0 := ((hx.store 5 (.int .i64 2) (n' := { n with role := 2 }) rfl rfl (hx.st.ok.of rfl rfl rfl)).store 6 (.int .i64 n.id) (n' := { n with role := 2, lead := n.id }) rfl rfl (hx.st.ok.of rfl rfl rfl)).store 8 (.int .i64 0) (n' := ledTo n (L + 1) 0) rfl rfl (hx.st.ok.of rfl rfl rfl)
  have H0 := Lib.hid h0
  have hwL : IntKind.u64.wrap ((L : Int) + 1) = ((L + 1 : Nat) : Int) := by rw [show (L : Int) + 1 = ((L + 1 : Nat) : Int) by omega]; exact wrap_u64_in (by omega) (by omega)
  obtain ⟨L1, hL1⟩ : ∃ x, L + 1 = x := ⟨_, rfl⟩
  rw [hL1] at hwL H0
  have HL1 := Lib.hid hL1
  have HOK := Lib.hid hx.st.ok
  clear h0 hx hb hL1
  go_wp2_with fail
  go_loopw [31] (fun i wr => ∃ j : Nat, j ≤ 7 ∧ i = .int .i64 j ∧ Sx base w wr s (ledTo n L1 j) (.slice A L c) (.slice B ms.length d) ms) (fun i _ => 7 - (intOf i).toNat)
  case atStart => exact ⟨0, by omega, rfl, H0.out⟩
  case round =>
    obtain ⟨j, hj, rfl, hx⟩ := hrel
    by_cases hlt : j < 7
    · have hok := hx.st.ok
      have cM := hx.st.cell (23 + j) _ (stC_low _ _ _ _ (ndC_mat hok _ j hlt))
      have cN := hx.st.cell (16 + j) _ (stC_low _ _ _ _ (ndC_next hok _ j hlt))
      have fM := hx.st.free (23 + j)
      have fN := hx.st.free (16 + j)
      have h1 := hx.store (16 + j) (.int .u64 (L1 : Int)) (stC_setN hok _ _ j hlt L1) rfl (hok.setN j L1 (by have := HL1.out; omega))
      have h2 := (h1.store (23 + j) (.int .u64 ((0 : Nat) : Int)) (n' := ledTo n L1 (j + 1)) ((stC_setM h1.st.ok _ _ j hlt 0).trans (by
        congr 1
        unfold ledTo
        dsimp only
        rw [fillTo_set _ _ _ (by rw [HOK.out.n7]; exact hlt), fillTo_set _ _ _ (by rw [HOK.out.m7]; exact hlt)])) rfl ⟨HOK.out.v7, by unfold ledTo; dsimp only; rw [fillTo_len _ _ _ (by rw [HOK.out.n7]; exact hlt)]; exact HOK.out.n7, by unfold ledTo; dsimp only; rw [fillTo_len _ _ _ (by rw [HOK.out.m7]; exact hlt)]; exact HOK.out.m7, by
          intro x hx2
          unfold ledTo fillTo at hx2
          dsimp only at hx2
          rcases List.mem_append.1 hx2 with h3 | h3
          · rw [List.eq_of_mem_replicate h3]; omega
          · exact HOK.out.ms x (List.mem_of_mem_drop h3), by
          intro x hx2
          unfold ledTo fillTo at hx2
          dsimp only at hx2
          rcases List.mem_append.1 hx2 with h3 | h3
          · rw [List.eq_of_mem_replicate h3]; have := HL1.out; omega
          · exact HOK.out.ns x (List.mem_of_mem_drop h3)⟩)
      have H2 := Lib.hid h2.drew
      have hj7 : (j : Int) < 7 := by omega
      clear hx hok h1 h2
      go_wp2_with fail
      go_region
      all_goals
        go_wp2_with fail
        go_roundw
        case rel => exact ⟨j + 1, by omega, by go_num, H2.out⟩
        case measure => simp [intOf]; omega
    · obtain rfl : j = 7 := by omega
      have hled : ledTo n L1 7 = rf.led n := by rw [← HL1.out, ← HL.out]; exact ledTo_all HOK.out
      rw [hled] at hx
      have hst := hx
      rw [show L = (rf.led n).log.length from HL.out.symm] at hst
      have HST := Lib.hid hst
      clear hx hst hled
      go_wp2_with fail
      refine (add_any [] HST.out.st HM.out HI.out HI7.out HML.out (by have := HLog.out; exact this)).mono ?_
      rintro e w9 ⟨rfl, h9⟩
      obtain ⟨A9, c9, B9, d9, h10⟩ := HST.out.call h9
      have H10 := Lib.hid h10
      clear h9 h10
      go_wp2
      go_end0
      exact ⟨rfl, H10.out.to⟩
theorem voted1_any (s b : Nat) (k : Nat) (x : Bool) (w : World) (hk : k < 7) (h1 : w.cell? ⟨b, 0, none⟩ = some (.pointer (some ⟨s, 0, none⟩))) (h3 : w.cell? ⟨s, 9 + k, none⟩ = some (.bool x)) :
    Calls Try.prog 39 #[.int .i64 (k : Int), .pointer (some ⟨b, 0, none⟩)] w fun e w' => e = .returned (.bool x) ∧ w = w' := by
  go_enter Try.func39, Try.ntmps39
  go_wp2
  go_ret
  exact ⟨rfl, rfl⟩
set_option maxHeartbeats 4000000 in
theorem voted_any {base s : Nat} {w : World} {n : rf.Node} {A B : Option Addr} {c d : Nat} {ms : List rf.Msg} (K : Nat) (h : St base w s n (.slice A n.log.length c) (.slice B ms.length d) ms) (hK7 : K < 7) (hm0 : 0 ≤ n.many) (hid : 0 ≤ n.id) (hid7 : n.id < 7) (hl : ms.length ≤ 900) (hlog : n.log.length ≤ 9990) :
    Calls Try.prog 31 #[.pointer (some ⟨s, 0, none⟩), .int .i64 (K : Int)] w fun e w' => e = .returned (.tuple #[]) ∧ StTo base w s (rf.voted n (K : Int)).1 (ms ++ (rf.voted n (K : Int)).2) w' := by
  obtain ⟨n1, hn1⟩ : ∃ n1, { n with votes := n.votes.set K true } = n1 := ⟨_, rfl⟩
  have hv : rf.voted n (K : Int) = (if rf.elected n1 = true then rf.lead n1 else (n1, [])) := by
    unfold rf.voted
    rw [if_pos (by omega), Int.toNat_natCast, hn1]
  obtain ⟨L, hL⟩ : ∃ L, n.log.length = L := ⟨_, rfl⟩
  rw [hL] at h
  obtain ⟨b, hbe⟩ : ∃ b, w.heap.size = b := ⟨_, rfl⟩
  obtain ⟨X, hX⟩ : ∃ X, w.alloc (.cells #[.pointer (some ⟨s, 0, none⟩)] 58) = X := ⟨_, rfl⟩
  have hbX : Below w.heap.size w X := by rw [← hX]; exact (Below.refl _ w).alloc (Nat.le_refl _) _
  have kb : Blk X b [.pointer (some ⟨s, 0, none⟩)] 58 := by rw [← hX, ← hbe]; exact Blk.new w _ _
  have hbs : b ≠ s := by have := h.blk.lt; omega
  have hx := (Sx.start h).later hbX
  have c0 := kb.cell 0 _ rfl
  have cV := hx.st.cell (9 + K) _ (stC_low _ _ _ _ (ndC_vote hx.st.ok _ K hK7))
  have fV := hx.st.free (9 + K)
  have hx1 := hx.store (9 + K) (.bool true) (n' := n1) (by rw [← hn1]; exact stC_setV hx.st.ok _ _ K hK7 true) (by rw [← hn1]) (by rw [← hn1]; exact hx.st.ok.setV K true)
  have kb1 := kb.other ⟨s, 9 + K, none⟩ (.bool true) hbs
  have hbs' : ¬ b = s := hbs
  have hk0 : (0 : Int) ≤ (K : Int) := by omega
  have hk7 : (K : Int) < 7 := by omega
  have d0 : decide ((K : Int) < 0) = false := by simp
  have d7 : decide ((7 : Int) ≤ (K : Int)) = false := by simp; omega
  have hmany : n1.many = n.many := by rw [← hn1]
  have hid1 : n1.id = n.id := by rw [← hn1]
  have hlog1 : n1.log.length = L := by rw [← hn1]; exact hL
  obtain ⟨N, hN⟩ : ∃ N : Nat, min n1.many 7 = (N : Int) := ⟨(min n1.many 7).toNat, by omega⟩
  have hN7 : N ≤ 7 := by omega
  have hs : rf.size n1 = N := by unfold rf.size; omega
  have hmaj : rf.elected n1 = decide (n1.many < 2 * (cnt (fun k => n1.votes.getD k false) N : Int)) := by unfold rf.elected rf.majority rf.count cnt; rw [hs]
  have HMJ := Lib.hid hmaj
  have HX := Lib.hid hX
  have HX1 := Lib.hid hx1
  have HKB := Lib.hid kb1
  have HV := Lib.hid hv
  have HN := Lib.hid hN
  have HN7 := Lib.hid hN7
  have HLL := Lib.hid hlog1
  have HID := Lib.hid hid
  have HID7 := Lib.hid hid7
  have HID1 := Lib.hid hid1
  have HM := Lib.hid hm0
  have HMN := Lib.hid hmany
  have HML := Lib.hid hl
  have HLog : Hid (L ≤ 9990) := Lib.hid (by omega)
  clear hmaj hX hx1 kb1 hv hN hN7 hlog1 hid hid7 hid1 hm0 hmany hl hlog hx kb h hbX hn1 hL hs hbs
  go_enter Try.func31, Try.ntmps31
  go_upto_region 1 with fail
  rw [HX.out]
  go_wp2_with fail
  obtain ⟨Y, hY⟩ : ∃ Y, X.setCell ⟨s, 9 + K, none⟩ (.bool true) = Y := ⟨_, rfl⟩
  rw [hY] at HX1 HKB ⊢
  refine (majority_any (s := s) 39 #[.pointer (some ⟨b, 0, none⟩)] n1.many N HN.out HN7.out (fun k => n1.votes.getD k false) (fun w' => Y = w') ?_ (enters_any Try.func39 (by kernel_rfl) rfl) ?_ rfl).mono ?_
  · rintro w' rfl
    exact HX1.out.st.cell 1 _ (stC_low _ _ 1 _ rfl)
  · rintro j w' hj rfl
    exact voted1_any s b j _ Y (by have := HN7.out; omega) (HKB.out.cell 0 _ rfl) (HX1.out.st.cell _ _ (stC_low _ _ _ _ (ndC_vote HX1.out.st.ok _ j (by have := HN7.out; omega))))
  rintro e w2 ⟨rfl, rfl⟩
  rw [← HMJ.out]
  clear hY cV fV c0
  have c0 := HKB.out.cell 0 _ rfl
  cases he : rf.elected n1 with
  | false =>
    have hv := HV.out
    rw [he, if_neg (by simp)] at hv
    have HV2 := Lib.hid hv
    clear hv he
    go_wp2
    go_end0
    rw [HV2.out]
    exact ⟨rfl, by rw [List.append_nil]; exact HX1.out.to⟩
  | true =>
    have hv := HV.out
    rw [he, if_pos rfl] at hv
    have HV2 := Lib.hid hv
    clear hv he
    have h2 := HX1.out
    rw [← HLL.out] at h2
    have H2 := Lib.hid h2
    clear h2
    go_wp2_with fail
    refine (lead_any H2.out.st (by rw [HMN.out]; exact HM.out) (by rw [HID1.out]; exact HID.out) (by rw [HID1.out]; exact HID7.out) HML.out (by rw [HLL.out]; exact HLog.out)).mono ?_
    rintro e w9 ⟨rfl, h9⟩
    obtain ⟨A9, c9, B9, d9, h10⟩ := H2.out.call h9
    have H10 := Lib.hid h10
    clear h9 h10
    go_wp2
    go_end0
    rw [HV2.out]
    exact ⟨rfl, H10.out.to⟩
end Go.Proofs.Ytkoidphhlfjlhaa
