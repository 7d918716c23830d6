/- Propose: walked. -/
import Derived.Test.YtkoidphhlfjlhaaRfTick
namespace Go.Proofs.Ytkoidphhlfjlhaa
open Go Go.RowKit Go.Deep
set_option maxRecDepth 100000

theorem results_cell_four {P : Program} {fn : Func} {p u v x : Tmp} {ty : TypeId} (h : fn.results = #[.cell p ty, .tmp u, .tmp v, .tmp x]) (tmps : Array Value) (w : World) (g : Nat) (t : TypeId) (cs : Array Value) (fr : Nat × Nat) (d : TypeDesc)
    (hp : tmps.getD p undef = .pointer (some ⟨g, 0, none⟩)) (hg : w.heap[g]? = some (.cells cs t fr))
    (hu : P.underlying ty = some d) (hd : (match d with | .struct _ | .array _ _ => true | _ => false) = true) (hi : (P.info? ty).map (·.size) = some cs.size) :
    (results fn tmps).run P w = .ok (.tuple #[.agg cs, tmps.getD u undef, tmps.getD v undef, tmps.getD x undef]) w := by
  have hp' : tmps[p]?.getD undef = .pointer (some ⟨g, 0, none⟩) := by simpa using hp
  simp [results, h, hp', asAddr, run_loadVar_row w g t ty cs fr d hg hu hd hi]
set_option maxHeartbeats 16000000 in
theorem propose_any (n : rf.Node) (text : List UInt8) (A : Option Addr) (c : Nat) (w : World) (hE : Ents w (.slice A n.log.length c) n.log) (ok : NOk n) (hm0 : 0 ≤ n.many) (hlog : n.log.length ≤ 9990) :
    Calls Try.prog 14 #[ndV n (.slice A n.log.length c), .string (crcm.mk text)] w fun e w' => ∃ nv sv, e = .returned (.tuple #[nv, sv, .int .u64 ((rf.propose n text).2.2.1 : Nat), .int .i64 (rf.propose n text).2.2.2]) ∧ Out w (rf.propose n text).1 (rf.propose n text).2.1 w' nv sv := by
  obtain ⟨L, hL⟩ : ∃ L, n.log.length = L := ⟨_, rfl⟩
  obtain ⟨X0, bn, hX0, hbn, hb0, kb⟩ := box_blk w (ndC n (.slice A L c)) 33
  obtain ⟨X2, br, hX2, hbr, hb2, kr⟩ := box_blk X0 (ndC zeroN nilV) 33
  obtain rfl : br = bn + 1 := by rw [← hbr, ← hX0, ← hbn]; simp
  have hb02 := hb0.trans (hb2.mono hb0.size)
  have kb2 := kb.below hb2
  have HX0 := Lib.hid hX0
  have HX2 : Hid (X0.alloc (.cells #[.int .i64 0, .int .i64 0, .int .u64 0, .int .i64 0, .slice none 0 0, .int .i64 0, .int .i64 0, .int .u64 0, .int .i64 0, .bool false, .bool false, .bool false, .bool false, .bool false, .bool false, .bool false, .int .u64 0, .int .u64 0, .int .u64 0, .int .u64 0, .int .u64 0, .int .u64 0, .int .u64 0, .int .u64 0, .int .u64 0, .int .u64 0, .int .u64 0, .int .u64 0, .int .u64 0, .int .u64 0] 33) = X2) := Lib.hid hX2
  have HB02 := Lib.hid hb02
  have HKB2 := Lib.hid kb2
  have HKR2 := Lib.hid kr
  have HL := Lib.hid hL
  have HLog := Lib.hid hlog
  have HM0 := Lib.hid hm0
  have HOK := Lib.hid ok
  have HE := Lib.hid hE
  have HNS : Hid ((ndC n (.slice A L c)).toArray.size = 30) := Lib.hid (by rw [List.size_toArray, ndC_len ok])
  have HSZ2 : Hid ((Try.prog.info? 33).map (·.size) = some (ndC n (.slice A L c)).toArray.size) := Lib.hid (by rw [node_size, HNS.out])
  have HSZ3 : Hid ((ndC zeroN nilV).toArray.size = (ndC n (.slice A L c)).toArray.size) := Lib.hid (by rw [HNS.out]; rfl)
  have HONE : Hid ((ndC n (.slice A L c)).toArray.all (·.oneCell') = true) := Lib.hid (ndC_one rfl)
  have ho : Blk (X2.setRow (bn + 1) (ndC n (.slice A L c)).toArray) (bn + 1) (ndC n (.slice A L c)) 33 ∧ Out w n [] (X2.setRow (bn + 1) (ndC n (.slice A L c)).toArray) (ndV n (.slice A L c)) nilV := by
    have hbr2 : w.heap.size ≤ bn + 1 := by omega
    have he := ((EntsB.of_low HE.out (Nat.le_refl _)).later HB02.out).row (vs := ndC n (.slice A L c)) hbr2 HKR2.out
    rw [HL.out] at he
    refine ⟨HKR2.out.row _, A, c, none, 0, by rw [HL.out], rfl, by rw [HL.out]; exact he, Sent.nil _ _, HOK.out, HB02.out.trans (below_setRow _ _ _ hbr2)⟩
  have HO1 := Lib.hid ho.1
  have HO2 := Lib.hid ho.2
  have b0 := HKB2.out.cell 0 _ rfl
  have b5 := HKB2.out.cell 5 _ rfl
  rw [hL]
  clear hX0 hX2 hb0 hb2 hb02 kb kr kb2 hL hlog hm0 ok hE ho
  unfold ndV
  by_cases hq : n.role ≠ 2 ∨ n.id < 0 ∨ 7 ≤ n.id
  · have hp : rf.propose n text = (n, [], 0, 170) := by unfold rf.propose; rw [if_pos hq]
    have HP := Lib.hid hp
    have hex : ∃ f1 f2 f3 : Bool, (n.role != 2) = f1 ∧ decide (n.id < 0) = f2 ∧ decide (7 ≤ n.id) = f3 ∧ (f1 || f2 || f3) = true := by
      refine ⟨_, _, _, rfl, rfl, rfl, ?_⟩
      rcases hq with h | h | h <;> simp [h]
    obtain ⟨f1, f2, f3, h1, h2, h3, hf⟩ := hex
    clear hp hq
    cases f1 <;> cases f2 <;> cases f3 <;> (first | (exfalso; revert hf; decide) | skip)
    all_goals
      clear hf
      go_enter Try.func14, Try.ntmps14
      go_upto_region 1 with fail
      rw [HX0.out, HX2.out]
      go_wp2_with (first | (refine wpList_load_row rfl 33 _ rfl bn rfl _ _ _ _ HKB2.out Try.underlying33 rfl (by rw [node_size, HNS.out]) ?_) | (refine wpList_store_row rfl 33 (.tmp 4) (.tmp 24) rfl (bn + 1) _ rfl rfl _ _ HKR2.out HSZ2.out HSZ3.out HONE.out ?_))
      refine bodyPost_ret (results_cell_four rfl _ _ (bn + 1) _ _ (0, 0) _ rfl HO1.out Try.underlying33 rfl (by rw [← HSZ2.out])) rfl ?_
      rw [HP.out]
      exact ⟨_, _, rfl, HO2.out⟩
  · have h1 : (n.role != 2) = false := by rw [Bool.eq_false_iff, ne_eq, bne_iff_ne]; exact fun h => hq (.inl h)
    have h2 : decide (n.id < 0) = false := by simp; omega
    have h3 : decide (7 ≤ n.id) = false := by simp; omega
    have hid : 0 ≤ n.id := by omega
    have hid7 : n.id < 7 := by omega
    have HID := Lib.hid hid
    have HID7 := Lib.hid hid7
    by_cases hw : 60000 < text.length
    · have hp : rf.propose n text = (n, [], 0, 71) := by unfold rf.propose; rw [if_neg hq, if_pos hw]
      have HP := Lib.hid hp
      have hsz : (crcm.mk text).size = text.length := crcm.mk_size text
      have hd : decide ((60000 : Int) < (text.length : Int)) = true := by simp; omega
      clear hp hq hid hid7
      go_enter Try.func14, Try.ntmps14
      go_upto_region 1 with fail
      rw [HX0.out, HX2.out]
      go_wp2_with (first | (refine wpList_load_row rfl 33 _ rfl bn rfl _ _ _ _ HKB2.out Try.underlying33 rfl (by rw [node_size, HNS.out]) ?_) | (refine wpList_store_row rfl 33 (.tmp 4) (.tmp 29) rfl (bn + 1) _ rfl rfl _ _ HKR2.out HSZ2.out HSZ3.out HONE.out ?_))
      refine bodyPost_ret (results_cell_four rfl _ _ (bn + 1) _ _ (0, 0) _ rfl HO1.out Try.underlying33 rfl (by rw [← HSZ2.out])) rfl ?_
      rw [HP.out]
      exact ⟨_, _, rfl, HO2.out⟩
    · have hp : rf.propose n text = ((rf.add n text).1, (rf.add n text).2, n.log.length + 1, 0) := by unfold rf.propose; rw [if_neg hq, if_neg hw]
      have HP := Lib.hid hp
      have hsz : (crcm.mk text).size = text.length := crcm.mk_size text
      have hd : decide ((60000 : Int) < (text.length : Int)) = false := by simp; omega
      obtain ⟨Z, s, hZ, hs, hbZ, ks⟩ := box_blk X2 (stC n (.slice A L c) nilV) 60
      have hx : Sx w.heap.size X2 Z s n (.slice A n.log.length c) (.slice none ([] : List rf.Msg).length 0) [] := by
        have h := Sx.fresh HB02.out HE.out HOK.out
        rw [HL.out, hZ, hs] at h
        rw [HL.out]
        exact h
      have hrs : ¬ bn + 1 = s := by have := HKR2.out.lt; omega
      have HKR := Lib.hid (HKR2.out.below hbZ)
      have HBT := Lib.hid (built_step HOK.out (.slice A L c))
      have HZ := Lib.hid hZ
      have HSX := Lib.hid hx
      have HBASE : Hid (w.heap.size ≤ bn + 1) := Lib.hid (by omega)
      have HXY := Lib.hid HB02.out
      clear hp hq hid hid7 hZ hx ks hbZ
      go_enter Try.func14, Try.ntmps14
      go_upto_region 1 with fail
      rw [HX0.out, HX2.out]
      go_upto_region 6 with (first | (refine wpList_load_row rfl 33 _ rfl bn rfl _ _ _ _ HKB2.out Try.underlying33 rfl (by rw [node_size, HNS.out]) ?_) | (refine wpList_build_one rfl 60 0 (.tmp 30) rfl _ rfl _ HBT.out ?_))
      rw [HZ.out]
      go_wp2_with fail
      refine (add_any text HSX.out.st HM0.out HID.out HID7.out (Nat.zero_le _) HLog.out).mono ?_
      rintro e w5 ⟨rfl, hst⟩
      have r9 : Blk w5 (bn + 1) (ndC zeroN nilV) 33 := by
        obtain ⟨_, _, _, _, _, hk, _⟩ := hst
        exact hk.blk HKR.out hrs (by decide)
      obtain ⟨A9, c9, B9, d9, h9⟩ := HSX.out.call hst
      rw [List.nil_append] at h9
      have HTK : Hid True := Lib.hid trivial
      clear hst
      obtain ⟨n9, ms9, hT⟩ : ∃ n9 ms9, rf.add n text = (n9, ms9) := ⟨_, _, rfl⟩
      rw [hT] at h9
      dsimp only at h9
      have H9 := Lib.hid h9
      have HR9 := Lib.hid r9
      have HTT := Lib.hid hT
      clear h9 r9 hT HTK
      go_wp2_with fail
      obtain ⟨W9, hW9⟩ : ∃ W9, w5 = W9 := ⟨_, rfl⟩
      have hx9 := H9.out.drew
      have hr9 := HR9.out.drew
      rw [hW9] at hx9 hr9 ⊢
      have hs9 := ndC_len hx9.st.ok (.slice A9 n9.log.length c9)
      have ho9 := hx9.out hr9 HBASE.out HXY.out
      have hS9 : W9.drew.rangeAt s 0 (ndC n9 (.slice A9 n9.log.length c9)) ∧ W9.drew.cell? ⟨s, 30, none⟩ = some (.slice B9 ms9.length d9) := ⟨ndC_range hx9.st.blk, hx9.st.cell 30 _ (stC_sent hx9.st.ok _ _)⟩
      have hS8 : (W9.drew.setRow (bn + 1) (ndC n9 (.slice A9 n9.log.length c9)).toArray).rangeAt s 0 (ndC n9 (.slice A9 n9.log.length c9)) ∧ (W9.drew.setRow (bn + 1) (ndC n9 (.slice A9 n9.log.length c9)).toArray).cell? ⟨s, 30, none⟩ = some (.slice B9 ms9.length d9) := by
        have hb : Blk (W9.drew.setRow (bn + 1) (ndC n9 (.slice A9 n9.log.length c9)).toArray) s (stC n9 (.slice A9 n9.log.length c9) (.slice B9 ms9.length d9)) 60 := (setRow_apart _ _ _ s (fun e => hrs e.symm)).trans hx9.st.blk
        exact ⟨ndC_range hb, hb.cell 30 _ (stC_sent hx9.st.ok _ _)⟩
      have HSZ : Hid ((Try.prog.info? 33).map (·.size) = some (ndC n9 (.slice A9 n9.log.length c9)).length) := Lib.hid (by rw [node_size, hs9])
      have HSY2 : Hid ((Try.prog.info? 33).map (·.size) = some (ndC n9 (.slice A9 n9.log.length c9)).toArray.size) := Lib.hid (by rw [node_size, List.size_toArray, hs9])
      have HSY3 : Hid ((ndC zeroN nilV).toArray.size = (ndC n9 (.slice A9 n9.log.length c9)).toArray.size) := Lib.hid (by rw [List.size_toArray, List.size_toArray, hs9]; rfl)
      have HONY : Hid ((ndC n9 (.slice A9 n9.log.length c9)).toArray.all (·.oneCell') = true) := Lib.hid (ndC_one rfl)
      have HS2 := Lib.hid hS8
      have HBR := Lib.hid hr9
      have HOUT1 := Lib.hid ho9.1
      have HOUT2 := Lib.hid ho9.2
      clear hx9 hr9 hs9 ho9 hS8 hW9
      refine wp_region_held_drew (S := (fun w' => w'.rangeAt s 0 (ndC n9 (.slice A9 n9.log.length c9)) ∧ w'.cell? ⟨s, 30, none⟩ = some (.slice B9 ms9.length d9))) (by kernel_rfl) hS9 (fun hHeld => ?_)
      clear hS9
      (refine wpAnyH_take (i := 0) (v := ?_) (opsAt rfl) (by kernel_rfl) (by kernel_rfl) (by kernel_rfl) (fun _ _ _ h => h) (Or.inl ⟨by rfl, ?_⟩) (by assumption) ?_; rotate_left; focus (intro w hSw; (try dsimp only at hSw); go_simp; (try with_reducible rfl); done))
      (try simp only [Act.put, List.setIfInBounds_toArray, List.set_cons_zero, List.set_cons_succ])
      (refine wpAnyH_take (i := 1) (v := ?_) (opsAt rfl) (by kernel_rfl) (by kernel_rfl) (by kernel_rfl) (fun _ _ _ h => h) (Or.inl ⟨by rfl, ?_⟩) (by assumption) ?_; rotate_left; focus (intro w hSw; (try dsimp only at hSw); go_simp; (try with_reducible rfl); done))
      (try simp only [Act.put, List.setIfInBounds_toArray, List.set_cons_zero, List.set_cons_succ])
      (refine wpAnyH_take (i := 2) (v := ?_) (opsAt rfl) (by kernel_rfl) (by kernel_rfl) (by kernel_rfl) (fun _ _ _ h => h) (Or.inl ⟨by rfl, ?_⟩) (by assumption) ?_; rotate_left; focus (intro w hSw; (try dsimp only at hSw); go_simp; (try with_reducible rfl); done))
      (try simp only [Act.put, List.setIfInBounds_toArray, List.set_cons_zero, List.set_cons_succ])
      refine wpAnyH_take (i := 3) (opsAt rfl) (by kernel_rfl) (by kernel_rfl) (by kernel_rfl) (fun _ _ _ h => h) (yieldsIf_load_mid (by rfl) _ _ rfl _ _ rfl _ _ (fun _ h => h.1) Try.underlying33 rfl HSZ.out) (by assumption) ?_
      (try simp only [Act.put, List.setIfInBounds_toArray, List.set_cons_zero, List.set_cons_succ])
      (refine wpAnyH_take (i := 4) (v := ?_) (opsAt rfl) (by kernel_rfl) (by kernel_rfl) (by kernel_rfl) (fun _ _ _ h => h) (Or.inl ⟨by rfl, ?_⟩) (by assumption) ?_; rotate_left; focus (intro w hSw; (try dsimp only at hSw); go_simp; (try with_reducible rfl); done))
      (try simp only [Act.put, List.setIfInBounds_toArray, List.set_cons_zero, List.set_cons_succ])
      (refine wpAnyH_take (i := 5) (v := ?_) (opsAt rfl) (by kernel_rfl) (by kernel_rfl) (by kernel_rfl) (fun _ _ _ h => h) (Or.inl ⟨by rfl, ?_⟩) (by assumption) ?_; rotate_left; focus (intro w hSw; (try dsimp only at hSw); go_simp; (try with_reducible rfl); done))
      (try simp only [Act.put, List.setIfInBounds_toArray, List.set_cons_zero, List.set_cons_succ])
      (refine wpAnyH_take (i := 6) (v := ?_) (opsAt rfl) (by kernel_rfl) (by kernel_rfl) (by kernel_rfl) (fun _ _ _ h => h) (Or.inl ⟨by rfl, ?_⟩) (by assumption) ?_; rotate_left; focus (intro w hSw; (try dsimp only at hSw); go_simp; (try with_reducible rfl); done))
      (try simp only [Act.put, List.setIfInBounds_toArray, List.set_cons_zero, List.set_cons_succ])
      (refine wpAnyH_take (i := 7) (v := ?_) (opsAt rfl) (by kernel_rfl) (by kernel_rfl) (by kernel_rfl) (fun _ _ _ h => h) (Or.inl ⟨by rfl, ?_⟩) (by assumption) ?_; rotate_left; focus (intro w hSw; (try dsimp only at hSw); go_simp; (try with_reducible rfl); done))
      (try simp only [Act.put, List.setIfInBounds_toArray, List.set_cons_zero, List.set_cons_succ])
      (refine wpAnyH_take (i := 8) (v := ?_) (opsAt rfl) (by kernel_rfl) (by kernel_rfl) (by kernel_rfl) (fun _ _ _ h => h) (Or.inl ⟨by rfl, ?_⟩) (by assumption) ?_; rotate_left; focus (intro w hSw; (try dsimp only at hSw); go_simp; (try with_reducible rfl); done))
      (try simp only [Act.put, List.setIfInBounds_toArray, List.set_cons_zero, List.set_cons_succ])
      refine wpAnyH_ready (rs := [9]) (by kernel_rfl) (by simp) ?_
      refine AllReadyH.cons (opsAt rfl) (fun K hK => ?_) AllReadyH.nil
      rw [if_pos (by rfl)]
      refine wp_store_row 33 _ _ rfl _ _ rfl rfl _ _ HBR.out HSY2.out HSY3.out HONY.out ?_
      (try simp only [Act.put])
      refine hK.out _ _ HS2.out (fun hHeld => ?_)
      clear hK K
      (try simp only [Act.put, List.setIfInBounds_toArray, List.set_cons_zero, List.set_cons_succ])
      (refine wpAnyH_take (i := 10) (v := ?_) (opsAt rfl) (by kernel_rfl) (by kernel_rfl) (by kernel_rfl) (fun _ _ _ h => h) (Or.inl ⟨by rfl, ?_⟩) (by assumption) ?_; rotate_left; focus (intro w hSw; (try dsimp only at hSw); go_simp; (try with_reducible rfl); done))
      (try simp only [Act.put, List.setIfInBounds_toArray, List.set_cons_zero, List.set_cons_succ])
      (refine wpAnyH_take (i := 11) (v := ?_) (opsAt rfl) (by kernel_rfl) (by kernel_rfl) (by kernel_rfl) (fun _ _ _ h => h) (Or.inl ⟨by rfl, ?_⟩) (by assumption) ?_; rotate_left; focus (intro w hSw; (try dsimp only at hSw); go_simp; (try with_reducible rfl); done))
      (try simp only [Act.put, List.setIfInBounds_toArray, List.set_cons_zero, List.set_cons_succ])
      (refine wpAnyH_take (i := 12) (v := ?_) (opsAt rfl) (by kernel_rfl) (by kernel_rfl) (by kernel_rfl) (fun _ _ _ h => h) (Or.inl ⟨by rfl, ?_⟩) (by assumption) ?_; rotate_left; focus (intro w hSw; (try dsimp only at hSw); go_simp; (try with_reducible rfl); done))
      (try simp only [Act.put, List.setIfInBounds_toArray, List.set_cons_zero, List.set_cons_succ])
      refine wpAnyH_done (by kernel_rfl) ?_ _
      go_wp2_with fail
      refine bodyPost_ret (results_cell_four rfl _ _ (bn + 1) _ _ (0, 0) _ rfl HOUT1.out Try.underlying33 rfl (by rw [← HSY2.out])) rfl ?_
      rw [HP.out, HTT.out]
      exact ⟨_, _, rfl, HOUT2.out⟩
end Go.Proofs.Ytkoidphhlfjlhaa
