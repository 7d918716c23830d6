/- KfPropose, KfGood, KfBounds: one behind the other. -/
import Derived.Test.YtmcibggjolckoaaGreatDoorG22
namespace Go.Proofs.YtmcibggjolckoaaGreatDoor
open Go Go.RowKit Go.Deep
set_option maxRecDepth 100000

theorem results_cell_four {P : Program} {fn : Func} {p u v x : Tmp} {ty : TypeId} (h : fn.results = #[.cell p ty, .tmp u, .tmp v, .tmp x]) (tmps : Array Value) (w : World) (g : Nat) (t : TypeId) (cs : Array Value) (fr : Nat × Nat) (d : TypeDesc)
    (hp : tmps.getD p undef = .pointer (some ⟨g, 0, none⟩)) (hg : w.heap[g]? = some (.cells cs t fr))
    (hu : P.underlying ty = some d) (hd : (match d with | .struct _ | .array _ _ => true | _ => false) = true) (hi : (P.info? ty).map (·.size) = some cs.size) :
    (results fn tmps).run P w = .ok (.tuple #[.agg cs, tmps.getD u undef, tmps.getD v undef, tmps.getD x undef]) w := by
  have hp' : tmps[p]?.getD undef = .pointer (some ⟨g, 0, none⟩) := by simpa using hp
  simp [results, h, hp', asAddr, run_loadVar_row w g t ty cs fr d hg hu hd hi]
set_option maxHeartbeats 16000000 in
theorem propose_any (n : rf.Node) (text : List UInt8) (A : Option Addr) (c : Nat) (w : World) (hE : EntsB w.heap.size w (.slice A n.log.length c) n.log) (ok : NOk n) (hm0 : 0 ≤ n.many) (hlog : n.log.length ≤ 9990) :
    Calls Tryz.prog 34 #[ndV n (.slice A n.log.length c), .string (crcm.mk text)] w fun e w' => ∃ nv sv, e = .returned (.tuple #[nv, sv, .int .u64 ((rf.propose n text).2.2.1 : Nat), .int .i64 (rf.propose n text).2.2.2]) ∧ Out w (rf.propose n text).1 (rf.propose n text).2.1 w' nv sv := by
  obtain ⟨L, hL⟩ : ∃ L, n.log.length = L := ⟨_, rfl⟩
  obtain ⟨X0, bn, hX0, hbn, hb0, kb⟩ := box_blk w (ndC n (.slice A L c)) 50
  obtain ⟨X2, br, hX2, hbr, hb2, kr⟩ := box_blk X0 (ndC zeroN nilV) 50
  obtain rfl : br = bn + 1 := by rw [← hbr, ← hX0, ← hbn]; simp
  have hb02 := hb0.trans (hb2.mono hb0.size)
  have kb2 := kb.below hb2
  have HX0 := Lib.hid hX0
  have HX2 : Hid (X0.alloc (.cells #[.int .i64 0, .int .i64 0, .int .u64 0, .int .i64 0, .slice none 0 0, .int .i64 0, .int .i64 0, .int .u64 0, .int .i64 0, .bool false, .bool false, .bool false, .bool false, .bool false, .bool false, .bool false, .int .u64 0, .int .u64 0, .int .u64 0, .int .u64 0, .int .u64 0, .int .u64 0, .int .u64 0, .int .u64 0, .int .u64 0, .int .u64 0, .int .u64 0, .int .u64 0, .int .u64 0, .int .u64 0] 50) = X2) := Lib.hid hX2
  have HB02 := Lib.hid hb02
  have HKB2 := Lib.hid kb2
  have HKR2 := Lib.hid kr
  have HL := Lib.hid hL
  have HLog := Lib.hid hlog
  have HM0 := Lib.hid hm0
  have HOK := Lib.hid ok
  have HE := Lib.hid hE
  have HNS : Hid ((ndC n (.slice A L c)).toArray.size = 30) := Lib.hid (by rw [List.size_toArray, ndC_len ok])
  have HSZ2 : Hid ((Tryz.prog.info? 50).map (·.size) = some (ndC n (.slice A L c)).toArray.size) := Lib.hid (by rw [node_size, HNS.out])
  have HSZ3 : Hid ((ndC zeroN nilV).toArray.size = (ndC n (.slice A L c)).toArray.size) := Lib.hid (by rw [HNS.out]; rfl)
  have HONE : Hid ((ndC n (.slice A L c)).toArray.all (·.oneCell') = true) := Lib.hid (ndC_one rfl)
  have ho : Blk (X2.setRow (bn + 1) (ndC n (.slice A L c)).toArray) (bn + 1) (ndC n (.slice A L c)) 50 ∧ Out w n [] (X2.setRow (bn + 1) (ndC n (.slice A L c)).toArray) (ndV n (.slice A L c)) nilV := by
    have hbr2 : w.heap.size ≤ bn + 1 := by omega
    have he := (HE.out.later HB02.out).row (vs := ndC n (.slice A L c)) hbr2 HKR2.out
    rw [HL.out] at he
    refine ⟨HKR2.out.row _, A, c, none, 0, by rw [HL.out], rfl, by rw [HL.out]; exact he, Sent.nil _ _, HOK.out, HB02.out.trans (below_setRow _ _ _ hbr2)⟩
  have HO1 := Lib.hid ho.1
  have HO2 := Lib.hid ho.2
  have b0 := HKB2.out.cell 0 _ rfl
  have b5 := HKB2.out.cell 5 _ rfl
  rw [hL]
  clear hX0 hX2 hb0 hb2 hb02 kb kr kb2 hL hlog hm0 ok hE ho
  unfold ndV
  by_cases hq : n.role ≠ 2 ∨ n.id < 0 ∨ 7 ≤ n.id
  · have hp : rf.propose n text = (n, [], 0, 170) := by unfold rf.propose; rw [if_pos hq]
    have HP := Lib.hid hp
    have hex : ∃ f1 f2 f3 : Bool, (n.role != 2) = f1 ∧ decide (n.id < 0) = f2 ∧ decide (7 ≤ n.id) = f3 ∧ (f1 || f2 || f3) = true := by
      refine ⟨_, _, _, rfl, rfl, rfl, ?_⟩
      rcases hq with h | h | h <;> simp [h]
    obtain ⟨f1, f2, f3, h1, h2, h3, hf⟩ := hex
    clear hp hq
    cases f1 <;> cases f2 <;> cases f3 <;> (first | (exfalso; revert hf; decide) | skip)
    all_goals
      clear hf
      go_enter Tryz.func34, Tryz.ntmps34
      go_upto_region 1 with fail
      rw [HX0.out, HX2.out]
      go_wp2_with (first | (refine wpList_load_row rfl 50 _ rfl bn rfl _ _ _ _ HKB2.out Tryz.underlying50 rfl (by rw [node_size, HNS.out]) ?_) | (refine wpList_store_row rfl 50 (.tmp 4) (.tmp 24) rfl (bn + 1) _ rfl rfl _ _ HKR2.out HSZ2.out HSZ3.out HONE.out ?_))
      refine bodyPost_ret (results_cell_four rfl _ _ (bn + 1) _ _ (0, 0) _ rfl HO1.out Tryz.underlying50 rfl (by rw [← HSZ2.out])) rfl ?_
      rw [HP.out]
      exact ⟨_, _, rfl, HO2.out⟩
  · have h1 : (n.role != 2) = false := by rw [Bool.eq_false_iff, ne_eq, bne_iff_ne]; exact fun h => hq (.inl h)
    have h2 : decide (n.id < 0) = false := by simp; omega
    have h3 : decide (7 ≤ n.id) = false := by simp; omega
    have hid : 0 ≤ n.id := by omega
    have hid7 : n.id < 7 := by omega
    have HID := Lib.hid hid
    have HID7 := Lib.hid hid7
    by_cases hw : 60000 < text.length
    · have hp : rf.propose n text = (n, [], 0, 71) := by unfold rf.propose; rw [if_neg hq, if_pos hw]
      have HP := Lib.hid hp
      have hsz : (crcm.mk text).size = text.length := crcm.mk_size text
      have hd : decide ((60000 : Int) < (text.length : Int)) = true := by simp; omega
      clear hp hq hid hid7
      go_enter Tryz.func34, Tryz.ntmps34
      go_upto_region 1 with fail
      rw [HX0.out, HX2.out]
      go_wp2_with (first | (refine wpList_load_row rfl 50 _ rfl bn rfl _ _ _ _ HKB2.out Tryz.underlying50 rfl (by rw [node_size, HNS.out]) ?_) | (refine wpList_store_row rfl 50 (.tmp 4) (.tmp 29) rfl (bn + 1) _ rfl rfl _ _ HKR2.out HSZ2.out HSZ3.out HONE.out ?_))
      refine bodyPost_ret (results_cell_four rfl _ _ (bn + 1) _ _ (0, 0) _ rfl HO1.out Tryz.underlying50 rfl (by rw [← HSZ2.out])) rfl ?_
      rw [HP.out]
      exact ⟨_, _, rfl, HO2.out⟩
    · have hp : rf.propose n text = ((rf.add n text).1, (rf.add n text).2, n.log.length + 1, 0) := by unfold rf.propose; rw [if_neg hq, if_neg hw]
      have HP := Lib.hid hp
      have hsz : (crcm.mk text).size = text.length := crcm.mk_size text
      have hd : decide ((60000 : Int) < (text.length : Int)) = false := by simp; omega
      obtain ⟨Z, s, hZ, hs, hbZ, ks⟩ := box_blk X2 (stC n (.slice A L c) nilV) 93
      have hx : Sx w.heap.size X2 Z s n (.slice A n.log.length c) (.slice none ([] : List rf.Msg).length 0) [] := by
        have h := Sx.fresh HB02.out HE.out HOK.out
        rw [HL.out, hZ, hs] at h
        rw [HL.out]
        exact h
      have hrs : ¬ bn + 1 = s := by have := HKR2.out.lt; omega
      have HKR := Lib.hid (HKR2.out.below hbZ)
      have HBT := Lib.hid (built_step HOK.out (.slice A L c))
      have HZ := Lib.hid hZ
      have HSX := Lib.hid hx
      have HBASE : Hid (w.heap.size ≤ bn + 1) := Lib.hid (by omega)
      have HXY := Lib.hid HB02.out
      clear hp hq hid hid7 hZ hx ks hbZ
      go_enter Tryz.func34, Tryz.ntmps34
      go_upto_region 1 with fail
      rw [HX0.out, HX2.out]
      go_upto_region 6 with (first | (refine wpList_load_row rfl 50 _ rfl bn rfl _ _ _ _ HKB2.out Tryz.underlying50 rfl (by rw [node_size, HNS.out]) ?_) | (refine wpList_build_one rfl 93 0 (.tmp 30) rfl _ rfl _ HBT.out ?_))
      rw [HZ.out]
      go_wp2_with fail
      refine (add_any text HSX.out.st HM0.out HID.out HID7.out (Nat.zero_le _) HLog.out).mono ?_
      rintro e w5 ⟨rfl, hst⟩
      have r9 : Blk w5 (bn + 1) (ndC zeroN nilV) 50 := by
        obtain ⟨_, _, _, _, _, hk, _⟩ := hst
        exact hk.blk HKR.out hrs (by decide)
      obtain ⟨A9, c9, B9, d9, h9⟩ := HSX.out.call hst
      rw [List.nil_append] at h9
      have HTK : Hid True := Lib.hid trivial
      clear hst
      obtain ⟨n9, ms9, hT⟩ : ∃ n9 ms9, rf.add n text = (n9, ms9) := ⟨_, _, rfl⟩
      rw [hT] at h9
      dsimp only at h9
      have H9 := Lib.hid h9
      have HR9 := Lib.hid r9
      have HTT := Lib.hid hT
      clear h9 r9 hT HTK
      go_wp2_with fail
      obtain ⟨W9, hW9⟩ : ∃ W9, w5 = W9 := ⟨_, rfl⟩
      have hx9 := H9.out.drew
      have hr9 := HR9.out.drew
      rw [hW9] at hx9 hr9 ⊢
      have hs9 := ndC_len hx9.st.ok (.slice A9 n9.log.length c9)
      have ho9 := hx9.out hr9 HBASE.out HXY.out
      have hS9 : W9.drew.rangeAt s 0 (ndC n9 (.slice A9 n9.log.length c9)) ∧ W9.drew.cell? ⟨s, 30, none⟩ = some (.slice B9 ms9.length d9) := ⟨ndC_range hx9.st.blk, hx9.st.cell 30 _ (stC_sent hx9.st.ok _ _)⟩
      have hS8 : (W9.drew.setRow (bn + 1) (ndC n9 (.slice A9 n9.log.length c9)).toArray).rangeAt s 0 (ndC n9 (.slice A9 n9.log.length c9)) ∧ (W9.drew.setRow (bn + 1) (ndC n9 (.slice A9 n9.log.length c9)).toArray).cell? ⟨s, 30, none⟩ = some (.slice B9 ms9.length d9) := by
        have hb : Blk (W9.drew.setRow (bn + 1) (ndC n9 (.slice A9 n9.log.length c9)).toArray) s (stC n9 (.slice A9 n9.log.length c9) (.slice B9 ms9.length d9)) 93 := (setRow_apart _ _ _ s (fun e => hrs e.symm)).trans hx9.st.blk
        exact ⟨ndC_range hb, hb.cell 30 _ (stC_sent hx9.st.ok _ _)⟩
      have HSZ : Hid ((Tryz.prog.info? 50).map (·.size) = some (ndC n9 (.slice A9 n9.log.length c9)).length) := Lib.hid (by rw [node_size, hs9])
      have HSY2 : Hid ((Tryz.prog.info? 50).map (·.size) = some (ndC n9 (.slice A9 n9.log.length c9)).toArray.size) := Lib.hid (by rw [node_size, List.size_toArray, hs9])
      have HSY3 : Hid ((ndC zeroN nilV).toArray.size = (ndC n9 (.slice A9 n9.log.length c9)).toArray.size) := Lib.hid (by rw [List.size_toArray, List.size_toArray, hs9]; rfl)
      have HONY : Hid ((ndC n9 (.slice A9 n9.log.length c9)).toArray.all (·.oneCell') = true) := Lib.hid (ndC_one rfl)
      have HS2 := Lib.hid hS8
      have HBR := Lib.hid hr9
      have HOUT1 := Lib.hid ho9.1
      have HOUT2 := Lib.hid ho9.2
      clear hx9 hr9 hs9 ho9 hS8 hW9
      refine wp_region_held_drew (S := (fun w' => w'.rangeAt s 0 (ndC n9 (.slice A9 n9.log.length c9)) ∧ w'.cell? ⟨s, 30, none⟩ = some (.slice B9 ms9.length d9))) (by kernel_rfl) hS9 (fun hHeld => ?_)
      clear hS9
      (refine wpAnyH_take (i := 0) (v := ?_) (opsAt rfl) (by kernel_rfl) (by kernel_rfl) (by kernel_rfl) (fun _ _ _ h => h) (Or.inl ⟨by rfl, ?_⟩) (by assumption) ?_; rotate_left; focus (intro w hSw; (try dsimp only at hSw); go_simp; (try with_reducible rfl); done))
      (try simp only [Act.put, List.setIfInBounds_toArray, List.set_cons_zero, List.set_cons_succ])
      (refine wpAnyH_take (i := 1) (v := ?_) (opsAt rfl) (by kernel_rfl) (by kernel_rfl) (by kernel_rfl) (fun _ _ _ h => h) (Or.inl ⟨by rfl, ?_⟩) (by assumption) ?_; rotate_left; focus (intro w hSw; (try dsimp only at hSw); go_simp; (try with_reducible rfl); done))
      (try simp only [Act.put, List.setIfInBounds_toArray, List.set_cons_zero, List.set_cons_succ])
      (refine wpAnyH_take (i := 2) (v := ?_) (opsAt rfl) (by kernel_rfl) (by kernel_rfl) (by kernel_rfl) (fun _ _ _ h => h) (Or.inl ⟨by rfl, ?_⟩) (by assumption) ?_; rotate_left; focus (intro w hSw; (try dsimp only at hSw); go_simp; (try with_reducible rfl); done))
      (try simp only [Act.put, List.setIfInBounds_toArray, List.set_cons_zero, List.set_cons_succ])
      refine wpAnyH_take (i := 3) (opsAt rfl) (by kernel_rfl) (by kernel_rfl) (by kernel_rfl) (fun _ _ _ h => h) (yieldsIf_load_mid (by rfl) _ _ rfl _ _ rfl _ _ (fun _ h => h.1) Tryz.underlying50 rfl HSZ.out) (by assumption) ?_
      (try simp only [Act.put, List.setIfInBounds_toArray, List.set_cons_zero, List.set_cons_succ])
      (refine wpAnyH_take (i := 4) (v := ?_) (opsAt rfl) (by kernel_rfl) (by kernel_rfl) (by kernel_rfl) (fun _ _ _ h => h) (Or.inl ⟨by rfl, ?_⟩) (by assumption) ?_; rotate_left; focus (intro w hSw; (try dsimp only at hSw); go_simp; (try with_reducible rfl); done))
      (try simp only [Act.put, List.setIfInBounds_toArray, List.set_cons_zero, List.set_cons_succ])
      (refine wpAnyH_take (i := 5) (v := ?_) (opsAt rfl) (by kernel_rfl) (by kernel_rfl) (by kernel_rfl) (fun _ _ _ h => h) (Or.inl ⟨by rfl, ?_⟩) (by assumption) ?_; rotate_left; focus (intro w hSw; (try dsimp only at hSw); go_simp; (try with_reducible rfl); done))
      (try simp only [Act.put, List.setIfInBounds_toArray, List.set_cons_zero, List.set_cons_succ])
      (refine wpAnyH_take (i := 6) (v := ?_) (opsAt rfl) (by kernel_rfl) (by kernel_rfl) (by kernel_rfl) (fun _ _ _ h => h) (Or.inl ⟨by rfl, ?_⟩) (by assumption) ?_; rotate_left; focus (intro w hSw; (try dsimp only at hSw); go_simp; (try with_reducible rfl); done))
      (try simp only [Act.put, List.setIfInBounds_toArray, List.set_cons_zero, List.set_cons_succ])
      (refine wpAnyH_take (i := 7) (v := ?_) (opsAt rfl) (by kernel_rfl) (by kernel_rfl) (by kernel_rfl) (fun _ _ _ h => h) (Or.inl ⟨by rfl, ?_⟩) (by assumption) ?_; rotate_left; focus (intro w hSw; (try dsimp only at hSw); go_simp; (try with_reducible rfl); done))
      (try simp only [Act.put, List.setIfInBounds_toArray, List.set_cons_zero, List.set_cons_succ])
      (refine wpAnyH_take (i := 8) (v := ?_) (opsAt rfl) (by kernel_rfl) (by kernel_rfl) (by kernel_rfl) (fun _ _ _ h => h) (Or.inl ⟨by rfl, ?_⟩) (by assumption) ?_; rotate_left; focus (intro w hSw; (try dsimp only at hSw); go_simp; (try with_reducible rfl); done))
      (try simp only [Act.put, List.setIfInBounds_toArray, List.set_cons_zero, List.set_cons_succ])
      refine wpAnyH_ready (rs := [9]) (by kernel_rfl) (by simp) ?_
      refine AllReadyH.cons (opsAt rfl) (fun K hK => ?_) AllReadyH.nil
      rw [if_pos (by rfl)]
      refine wp_store_row 50 _ _ rfl _ _ rfl rfl _ _ HBR.out HSY2.out HSY3.out HONY.out ?_
      (try simp only [Act.put])
      refine hK.out _ _ HS2.out (fun hHeld => ?_)
      clear hK K
      (try simp only [Act.put, List.setIfInBounds_toArray, List.set_cons_zero, List.set_cons_succ])
      (refine wpAnyH_take (i := 10) (v := ?_) (opsAt rfl) (by kernel_rfl) (by kernel_rfl) (by kernel_rfl) (fun _ _ _ h => h) (Or.inl ⟨by rfl, ?_⟩) (by assumption) ?_; rotate_left; focus (intro w hSw; (try dsimp only at hSw); go_simp; (try with_reducible rfl); done))
      (try simp only [Act.put, List.setIfInBounds_toArray, List.set_cons_zero, List.set_cons_succ])
      (refine wpAnyH_take (i := 11) (v := ?_) (opsAt rfl) (by kernel_rfl) (by kernel_rfl) (by kernel_rfl) (fun _ _ _ h => h) (Or.inl ⟨by rfl, ?_⟩) (by assumption) ?_; rotate_left; focus (intro w hSw; (try dsimp only at hSw); go_simp; (try with_reducible rfl); done))
      (try simp only [Act.put, List.setIfInBounds_toArray, List.set_cons_zero, List.set_cons_succ])
      (refine wpAnyH_take (i := 12) (v := ?_) (opsAt rfl) (by kernel_rfl) (by kernel_rfl) (by kernel_rfl) (fun _ _ _ h => h) (Or.inl ⟨by rfl, ?_⟩) (by assumption) ?_; rotate_left; focus (intro w hSw; (try dsimp only at hSw); go_simp; (try with_reducible rfl); done))
      (try simp only [Act.put, List.setIfInBounds_toArray, List.set_cons_zero, List.set_cons_succ])
      refine wpAnyH_done (by kernel_rfl) ?_ _
      go_wp2_with fail
      refine bodyPost_ret (results_cell_four rfl _ _ (bn + 1) _ _ (0, 0) _ rfl HOUT1.out Tryz.underlying50 rfl (by rw [← HSY2.out])) rfl ?_
      rw [HP.out, HTT.out]
      exact ⟨_, _, rfl, HOUT2.out⟩
end Go.Proofs.YtmcibggjolckoaaGreatDoor
namespace Go.Proofs.YtmcibggjolckoaaGreatDoor
open rl (Ent e0)

structure Good (n : rf.Node) : Prop where
  id0 : 0 ≤ n.id
  id7 : n.id < 7
  m0 : 0 ≤ n.many
  i0 : 0 ≤ n.idle
  i1 : n.idle ≤ 100
theorem add_idle (n : rf.Node) (t : List UInt8) : (rf.add n t).1.idle = n.idle := by
  unfold rf.add
  dsimp only
  rw [tally_with]
  rfl
theorem lead_idle (n : rf.Node) : (rf.lead n).1.idle = 0 := by
  unfold rf.lead
  rw [add_idle]
  rfl
theorem voted_idle (n : rf.Node) (K : Nat) (h : K < 7) : (rf.voted n (K : Int)).1.idle = n.idle ∨ (rf.voted n (K : Int)).1.idle = 0 := by
  rcases voted_cases n K h with e | e <;> rw [e]
  · exact .inl rfl
  · exact .inr (lead_idle _)
theorem stand_fst (n : rf.Node) : (rf.stand n).1 = (rf.voted (rf.stood n) n.id).1 := by
  unfold rf.stand
  split <;> rfl
theorem stand_good {n : rf.Node} (h : Good n) : Good (rf.stand n).1 ∧ (rf.stand n).1.id = n.id ∧ (rf.stand n).1.many = n.many ∧ (rf.stand n).1.log.length ≤ n.log.length + 1 := by
  obtain ⟨K, hK⟩ : ∃ K : Nat, n.id = (K : Int) := ⟨n.id.toNat, by have := h.id0; omega⟩
  have hK7 : K < 7 := by have := h.id7; omega
  rw [stand_fst, hK]
  have e1 := voted_id (rf.stood n) K hK7
  have e2 := voted_many (rf.stood n) K hK7
  have e3 := voted_len (rf.stood n) K hK7
  have e4 := voted_idle (rf.stood n) K hK7
  have s1 : (rf.stood n).id = (K : Int) := hK
  have s2 : (rf.stood n).many = n.many := rfl
  have s3 : (rf.stood n).log = n.log := rfl
  have s4 : (rf.stood n).idle = 0 := rfl
  rw [s4] at e4
  rw [s3] at e3
  have e5 : (rf.voted (rf.stood n) (K : Int)).1.idle = 0 := by rcases e4 with h | h <;> exact h
  refine ⟨⟨by rw [e1, s1]; omega, by rw [e1, s1]; omega, by rw [e2, s2]; exact h.m0, by omega, by omega⟩, by rw [e1, s1], by rw [e2, s2], e3⟩
theorem tick_good {n : rf.Node} (h : Good n) : Good (rf.tick n).1 ∧ (rf.tick n).1.id = n.id ∧ (rf.tick n).1.many = n.many ∧ (rf.tick n).1.log.length ≤ n.log.length + 1 := by
  have h0 := h.i0
  have h1 := h.i1
  have h2 := h.id7
  unfold rf.tick
  split
  · split
    · exact ⟨⟨h.id0, h.id7, h.m0, Int.le_refl _, (by decide : (0 : Int) ≤ 100)⟩, rfl, rfl, Nat.le_succ _⟩
    · exact ⟨⟨h.id0, h.id7, h.m0, by dsimp only; omega, by dsimp only; omega⟩, rfl, rfl, Nat.le_succ _⟩
  · split
    · have hg := stand_good (n := { n with idle := 0 }) ⟨h.id0, h.id7, h.m0, Int.le_refl _, (by decide : (0 : Int) ≤ 100)⟩
      have e : rf.stand { n with idle := n.idle + 1 } = rf.stand { n with idle := 0 } := rfl
      rw [e]
      exact hg
    · rename_i hlt
      exact ⟨⟨h.id0, h.id7, h.m0, by dsimp only; omega, by dsimp only; omega⟩, rfl, rfl, Nat.le_succ _⟩
/-- so many ticks -/
def ticks (n : rf.Node) : Nat → rf.Node
  | 0 => n
  | k + 1 => (rf.tick (ticks n k)).1
theorem ticks_good {n : rf.Node} (h : Good n) (k : Nat) : Good (ticks n k) ∧ (ticks n k).id = n.id ∧ (ticks n k).many = n.many ∧ (ticks n k).log.length ≤ n.log.length + k := by
  induction k with
  | zero => exact ⟨h, rfl, rfl, Nat.le_refl _⟩
  | succ k ih =>
    obtain ⟨i1, i2, i3, i4⟩ := ih
    obtain ⟨j1, j2, j3, j4⟩ := tick_good i1
    exact ⟨j1, j2.trans i2, j3.trans i3, by unfold ticks; omega⟩
end Go.Proofs.YtmcibggjolckoaaGreatDoor
namespace Go.Proofs.YtmcibggjolckoaaGreatDoor
open rl (Ent e0)

/-- no message holds more than 10000 entries -/
def Small (ms : List rf.Msg) : Prop := ∀ m ∈ ms, m.ents.length ≤ 10000
theorem Small.nil : Small [] := fun _ h => by cases h
theorem Small.one {m : rf.Msg} (h : m.ents = []) : Small [m] := fun x hx => by
  rw [List.mem_singleton.1 hx, h]
  exact Nat.zero_le _
theorem Small.append {a b : List rf.Msg} (h : Small a) (g : Small b) : Small (a ++ b) := fun x hx => by
  rcases List.mem_append.1 hx with h1 | h1
  · exact h x h1
  · exact g x h1
theorem putMsg_small (n : rf.Node) (j : Nat) : (rf.putMsg n j).ents.length ≤ 10000 := by
  unfold rf.putMsg
  dsimp only
  rw [List.length_take]
  omega
theorem puts_small (n : rf.Node) : Small (rf.puts n) := fun x hx => by
  unfold rf.puts at hx
  obtain ⟨j, _, rfl⟩ := List.mem_map.1 hx
  exact putMsg_small n j
theorem asks_small (n : rf.Node) : Small (rf.asks n) ∧ (rf.asks n).length ≤ 7 := by
  refine ⟨fun x hx => ?_, ?_⟩
  · unfold rf.asks at hx
    obtain ⟨j, _, rfl⟩ := List.mem_map.1 hx
    exact Nat.zero_le _
  · unfold rf.asks rf.others rf.size
    rw [List.length_map]
    have := List.length_filter_le (fun j : Nat => (j : Int) != n.id) (List.range (min n.many 7).toNat)
    rw [List.length_range] at this
    omega
theorem voted_small (n : rf.Node) (K : Nat) (h : K < 7) : Small (rf.voted n (K : Int)).2 := by
  rcases voted_cases n K h with e | e <;> rw [e]
  · exact Small.nil
  · exact puts_small _
theorem add_term (n : rf.Node) (t : List UInt8) : (rf.add n t).1.term = n.term := by
  unfold rf.add
  dsimp only
  rw [tally_with]
  rfl
theorem voted_term (n : rf.Node) (K : Nat) (h : K < 7) : (rf.voted n (K : Int)).1.term = n.term := by
  rcases voted_cases n K h with e | e <;> rw [e]
  exact add_term _ _
theorem stand_small {n : rf.Node} (h0 : 0 ≤ n.id) (h7 : n.id < 7) : Small (rf.stand n).2 ∧ (rf.stand n).2.length ≤ 14 ∧ (rf.stand n).1.term ≤ n.term + 1 := by
  obtain ⟨K, hK⟩ : ∃ K : Nat, n.id = (K : Int) := ⟨n.id.toNat, by omega⟩
  have hK7 : K < 7 := by omega
  have v1 := voted_small (rf.stood n) K hK7
  have v2 := voted_out (rf.stood n) K hK7
  have v3 : (rf.stand n).1.term ≤ n.term + 1 := by
    rw [stand_fst, hK, voted_term _ K hK7]
    exact Nat.mod_le _ _
  refine ⟨?_, ?_, v3⟩
  · unfold rf.stand
    rw [hK]
    split
    · exact v1
    · exact v1.append (asks_small _).1
  · unfold rf.stand
    rw [hK]
    split
    · omega
    · rw [List.length_append]
      have := (asks_small (rf.voted (rf.stood n) (K : Int)).1).2
      omega
theorem tick_small {n : rf.Node} (h0 : 0 ≤ n.id) (h7 : n.id < 7) : Small (rf.tick n).2 ∧ (rf.tick n).2.length ≤ 14 ∧ (rf.tick n).1.term ≤ n.term + 1 := by
  unfold rf.tick
  split
  · split
    · exact ⟨puts_small _, by have := puts_len { n with idle := 0 }; dsimp only; omega, Nat.le_succ _⟩
    · exact ⟨Small.nil, Nat.zero_le _, Nat.le_succ _⟩
  · split
    · exact stand_small (n := { n with idle := n.idle + 1 }) h0 h7
    · exact ⟨Small.nil, Nat.zero_le _, Nat.le_succ _⟩
theorem ticks_term {n : rf.Node} (h : Good n) (k : Nat) : (ticks n k).term ≤ n.term + k := by
  induction k with
  | zero => exact Nat.le_refl _
  | succ k ih =>
    have hg := (ticks_good h k).1
    have := (tick_small hg.id0 hg.id7).2.2
    unfold ticks
    omega
theorem fresh_log (n : rf.Node) (m : rf.Msg) : (rf.fresh n m).log = n.log := by
  unfold rf.fresh
  split
  · unfold rf.back
    split <;> rfl
  · rfl
theorem match_long (ls l : List Ent) (p t : Nat) : (rl.match_ ls p t l).1.length ≤ ls.length + l.length := by
  unfold rl.match_
  split
  · dsimp only
    split
    · rw [List.length_append, List.length_take, List.length_drop]; omega
    · omega
  · dsimp only; omega
theorem taken_log (n : rf.Node) (m : rf.Msg) : (rf.taken n m).log = n.log := by
  unfold rf.taken rf.back
  split <;> rfl
theorem one14 {x : rf.Msg} : [x].length ≤ 14 := by simp
theorem put_small (n : rf.Node) (m : rf.Msg) : Small (rf.put n m).2 ∧ (rf.put n m).2.length ≤ 14 ∧ (rf.put n m).1.log.length ≤ n.log.length + m.ents.length := by
  have hl := match_long (rf.taken n m).log m.ents m.index m.at_
  have ht := taken_log n m
  unfold rf.put
  split
  · exact ⟨Small.one rfl, one14, Nat.le_add_right _ _⟩
  · split
    · rename_i l at_ e
      rw [e] at hl
      rw [ht] at hl
      exact ⟨Small.one rfl, one14, hl⟩
    · exact ⟨Small.one rfl, one14, by dsimp only; rw [ht]; omega⟩
theorem vote_small (n : rf.Node) (m : rf.Msg) (h0 : 0 ≤ m.frm) (h7 : m.frm < 7) : Small (rf.vote n m).2 ∧ (rf.vote n m).2.length ≤ 14 ∧ (rf.vote n m).1.log.length ≤ n.log.length + 1 := by
  obtain ⟨K, hK⟩ : ∃ K : Nat, m.frm = (K : Int) := ⟨m.frm.toNat, by omega⟩
  unfold rf.vote
  rw [hK]
  split
  · exact ⟨voted_small n K (by omega), by have := voted_out n K (by omega); omega, voted_len n K (by omega)⟩
  · exact ⟨Small.nil, Nat.zero_le _, Nat.le_succ _⟩
theorem heard_small (n : rf.Node) (m : rf.Msg) : Small (rf.heard n m).2 ∧ (rf.heard n m).2.length ≤ 14 ∧ (rf.heard n m).1.log = n.log := by
  unfold rf.heard
  split
  · split
    · split
      · refine ⟨fun x hx => ?_, one14, by dsimp only; rw [tally_log]; rfl⟩
        rw [List.mem_singleton.1 hx]
        exact putMsg_small _ _
      · exact ⟨Small.nil, Nat.zero_le _, by dsimp only; rw [tally_log]; rfl⟩
    · refine ⟨fun x hx => ?_, one14, rfl⟩
      rw [List.mem_singleton.1 hx]
      exact putMsg_small _ _
  · exact ⟨Small.nil, Nat.zero_le _, rfl⟩
theorem ask_small (n : rf.Node) (m : rf.Msg) : Small (rf.ask n m).2 ∧ (rf.ask n m).2.length ≤ 14 ∧ (rf.ask n m).1.log = n.log := by
  unfold rf.ask
  split
  · exact ⟨Small.one rfl, one14, rfl⟩
  · exact ⟨Small.one rfl, one14, rfl⟩
theorem meant_frm {n : rf.Node} {m : rf.Msg} (h : rf.meant n m = true) : 0 ≤ m.frm ∧ m.frm < 7 := by
  unfold rf.meant at h
  simp only [Bool.and_eq_true, decide_eq_true_eq] at h
  omega
theorem step_small (n : rf.Node) (m : rf.Msg) : Small (rf.step n m).2 ∧ (rf.step n m).2.length ≤ 14 ∧ (rf.step n m).1.log.length ≤ n.log.length + m.ents.length + 1 := by
  have hf := fresh_log n m
  unfold rf.step
  split
  · rename_i hm
    obtain ⟨f0, f7⟩ := meant_frm hm
    split
    · obtain ⟨a, b, c⟩ := ask_small (rf.fresh n m) m
      exact ⟨a, b, by rw [c, hf]; omega⟩
    · split
      · obtain ⟨a, b, c⟩ := vote_small (rf.fresh n m) m f0 f7
        rw [hf] at c
        exact ⟨a, b, by omega⟩
      · split
        · obtain ⟨a, b, c⟩ := put_small (rf.fresh n m) m
          rw [hf] at c
          exact ⟨a, b, by omega⟩
        · obtain ⟨a, b, c⟩ := heard_small (rf.fresh n m) m
          exact ⟨a, b, by rw [c, hf]; omega⟩
  · exact ⟨Small.nil, Nat.zero_le _, by dsimp only; omega⟩
/-- a message that is not for it -/
theorem step_not {n : rf.Node} {m : rf.Msg} (h : rf.meant n m = false) : rf.step n m = (n, []) := by
  unfold rf.step
  rw [if_neg (by rw [h]; decide)]
/-- a message of a greater term -/
theorem step_falls {n : rf.Node} {m : rf.Msg} (h : rf.meant n m = true) (ht : n.term < m.term) : (rf.step n m).1.role = 0 ∧ (rf.step n m).1.term = m.term ∧ n.commit ≤ (rf.step n m).1.commit := by
  have e : rf.fresh n m = { n with role := 0, lead := -1, term := m.term, vote := -1 } := by
    unfold rf.fresh rf.back
    rw [if_pos ht, if_pos ht]
  unfold rf.step
  rw [if_pos h, e]
  split
  · unfold rf.ask
    split <;> exact ⟨rfl, rfl, Nat.le_refl _⟩
  · split
    · unfold rf.vote
      rw [if_neg (by dsimp only; omega)]
      exact ⟨rfl, rfl, Nat.le_refl _⟩
    · split
      · unfold rf.put
        rw [if_neg (by dsimp only; omega)]
        have e2 : ∀ x : rf.Node, x.term = m.term → x.commit = n.commit → (rf.taken x m).role = 0 ∧ (rf.taken x m).term = m.term ∧ (rf.taken x m).commit = n.commit := by
          intro x h1 h2
          unfold rf.taken rf.back
          rw [if_neg (by omega)]
          exact ⟨rfl, h1, h2⟩
        obtain ⟨t1, t2, t3⟩ := e2 { n with role := 0, lead := -1, term := m.term, vote := -1 } rfl rfl
        split
        · exact ⟨t1, t2, Nat.le_max_left _ _⟩
        · exact ⟨t1, t2, Nat.le_of_eq t3.symm⟩
      · unfold rf.heard
        rw [if_neg (by dsimp only; omega)]
        exact ⟨rfl, rfl, Nat.le_refl _⟩
end Go.Proofs.YtmcibggjolckoaaGreatDoor
