/- KfPuts, KfHeard: one behind the other. -/
import Derived.Test.YtmcibggjolckoaaGreatDoorG19
namespace Go.Proofs.YtmcibggjolckoaaGreatDoor
open Go Go.RowKit Go.Deep
set_option maxRecDepth 100000

theorem EntsB.of_rowT {base : Nat} {w : World} {u : Value} {ls : List rl.Ent} (h : Ents w u ls) (ht : RowT w u) : EntsB base w u ls := ⟨h, fun b o n c e h0 => by
  subst e
  exact ⟨h.lt h0, .inr (ht b o n c rfl)⟩⟩
theorem _root_.Go.RowKit.Below.box3 {B : Nat} {w w' : World} (h : Below B w w') (g : Nat) (hg : B ≤ g) (x y z : Value) : Below B w (((w'.setCell ⟨g, 0, none⟩ x).setCell ⟨g, 1, none⟩ y).setCell ⟨g, 2, none⟩ z) :=
  ((h.setCell (p := ⟨g, 0, none⟩) hg x).setCell (p := ⟨g, 1, none⟩) hg y).setCell (p := ⟨g, 2, none⟩) hg z
theorem ents_form {w : World} {u : Value} {ls : List rl.Ent} (h : Ents w u ls) : ∃ A c, u = .slice A ls.length c := by
  obtain ⟨A, c, e, _⟩ := h
  exact ⟨A, c, e⟩
theorem EntsB.of_match {base : Nat} {w : World} {A Au : Option Addr} {L k c cu : Nat} {ls ls' : List rl.Ent} (h : EntsB base w (.slice A L c) ls) (hE : Ents w (.slice Au k cu) ls') (hT : Value.slice Au k cu = .slice A L c ∨ RowT w (.slice Au k cu)) : EntsB base w (.slice Au k cu) ls' := by
  rcases hT with e | hT
  · refine ⟨hE, fun b o n c' e2 h0 => h.2 b o n c' (by rw [← e]; exact e2) ?_⟩
    obtain ⟨_, _, e3, _⟩ := hE
    obtain ⟨_, _, e4, _⟩ := h.1
    injection e with _ e5 _
    injection e3 with _ e6 _
    injection e4 with _ e7 _
    omega
  · exact EntsB.of_rowT hE hT
/-- a store into a box of another type -/
theorem EntsB.far {base g j : Nat} {w : World} {ev x : Value} {ls : List rl.Ent} {vs : List Value} {t : TypeId} (h : EntsB base w ev ls) (hg : base ≤ g) (hb : Blk w g vs t) (ht : t ≠ 35) : EntsB base (w.setCell ⟨g, j, none⟩ x) ev ls := by
  obtain ⟨⟨A, c, rfl, h1, h2, h3⟩, h4⟩ := h
  have hsame : ∀ b o n c', (Value.slice A ls.length c) = .slice (some ⟨b, o, none⟩) n c' → 0 < ls.length → (w.setCell ⟨g, j, none⟩ x).heap[b]? = w.heap[b]? := by
    intro b o n c' e h0
    obtain ⟨_, hh⟩ := h4 b o n c' e h0
    refine Below.heap_setCell _ _ _ b (fun e2 => ?_)
    have e2 : b = g := e2
    subst e2
    rcases hh with h5 | ⟨cur, h5⟩
    · omega
    · unfold Blk at hb
      rw [hb] at h5
      injection h5 with h5
      injection h5 with _ h6 _
      exact ht h6
  refine ⟨⟨A, c, rfl, h1, h2, fun h0 => ?_⟩, fun b o n c' e h0 => ?_⟩
  · obtain ⟨b, o, rfl, hA⟩ := h3 h0
    have e := hsame b o _ _ rfl h0
    refine ⟨b, o, rfl, fun k hk => ?_⟩
    rw [World.cell?_of_block (w := w) (w' := w.setCell ⟨g, j, none⟩ x) (a := ⟨b, o + k * 2, none⟩) e, World.cell?_of_block (w := w) (w' := w.setCell ⟨g, j, none⟩ x) (a := ⟨b, o + k * 2 + 1, none⟩) e]
    exact hA k hk
  · have e2 := hsame b o n c' e h0
    obtain ⟨hlt, hh⟩ := h4 b o n c' e h0
    exact ⟨by simpa [World.setCell] using hlt, by rw [e2]; exact hh⟩
theorem EntsB.box3 {base g : Nat} {w : World} {ev a b c x y z : Value} {ls : List rl.Ent} (h : EntsB base w ev ls) (hg : base ≤ g) (hb : Blk w g [a, b, c] 46) :
    EntsB base (((w.setCell ⟨g, 0, none⟩ x).setCell ⟨g, 1, none⟩ y).setCell ⟨g, 2, none⟩ z) ev ls ∧ Blk (((w.setCell ⟨g, 0, none⟩ x).setCell ⟨g, 1, none⟩ y).setCell ⟨g, 2, none⟩ z) g [x, y, z] 46 := by
  have h0 := h.far (j := 0) (x := x) hg hb (by decide)
  have b0 := hb.set 0 x
  have h1 := h0.far (j := 1) (x := y) hg b0 (by decide)
  have b1 := b0.set 1 y
  exact ⟨h1.far (j := 2) (x := z) hg b1 (by decide), b1.set 2 z⟩
theorem back_same (n : rf.Node) (t : Nat) : (rf.back n t).log = n.log ∧ (rf.back n t).id = n.id ∧ (rf.back n t).many = n.many ∧ (rf.back n t).commit = n.commit ∧ (rf.back n t).idle = n.idle := by
  unfold rf.back
  split <;> exact ⟨rfl, rfl, rfl, rfl, rfl⟩
set_option maxHeartbeats 8000000 in
theorem puts_any {base s : Nat} {w : World} {n : rf.Node} {A B : Option Addr} {c d : Nat} {ms : List rf.Msg} (m : rf.Msg) (A2 : Option Addr) (k2 c2 : Nat) (h : St base w s n (.slice A n.log.length c) (.slice B ms.length d) ms) (hm : EntsB base w (.slice A2 k2 c2) m.ents) (hl : ms.length ≤ 900) (hlog : n.log.length ≤ 10000) (hml : m.ents.length ≤ 10000) (hix : m.index < 18446744073709551616) :
    Calls Tryz.prog 64 #[.pointer (some ⟨s, 0, none⟩), msgV m (.slice A2 k2 c2)] w fun e w' => e = .returned (.tuple #[]) ∧ StTo base w s (rf.put n m).1 (ms ++ (rf.put n m).2) w' := by
  obtain ⟨X, bm, hX, hbm, hbX, kb⟩ := box_blk w (msgC m (.slice A2 k2 c2)) 83
  have hbs : ¬ bm = s := by have := h.blk.lt; omega
  have hbs2 : ¬ s = bm := fun e => hbs e.symm
  have hx := (Sx.start h).later hbX
  have hmX := hm.later hbX
  have c2' := hx.st.cell 2 _ (stC_low _ _ 2 _ rfl)
  have m1 := kb.cell 1 _ rfl
  have m3 := kb.cell 3 _ rfl
  have HX := Lib.hid hX
  have HXX := Lib.hid hx
  have HKB := Lib.hid kb
  have HMX := Lib.hid hmX
  have HLog := Lib.hid hlog
  have HML := Lib.hid hl
  have HMM := Lib.hid hml
  have HIX := Lib.hid hix
  clear hX hx kb h hbX hl hlog hm hmX hml hix
  unfold msgV msgC
  go_enter Tryz.func64, Tryz.ntmps64
  go_upto_region 1 with fail
  rw [show w.alloc (.cells #[.int .i64 m.kind, .int .i64 m.frm, .int .i64 m.dst, .int .u64 (m.term : Int), .int .u64 (m.index : Int), .int .u64 (m.at_ : Int), .int .u64 (m.commit : Int), .slice A2 k2 c2, .bool m.ok] 83) = X from HX.out]
  by_cases hlt : m.term < n.term
  · have hd : decide ((m.term : Int) < (n.term : Int)) = true := by simp; exact hlt
    have hput : rf.put n m = (n, [rf.stamp n { rf.msg0 with kind := 4, dst := m.frm }]) := by unfold rf.put; rw [if_pos hlt]
    have HP := Lib.hid hput
    have hdn : decide (m.term < n.term) = true := by simp; exact hlt
    clear hlt hput
    go_wp2_with fail
    go_quiet (fail)
    have hb := below_drewN (Below.refl X.heap.size X) nq
    have hx2 := HXX.out.later hb
    have m1 := (HKB.out.below hb).cell 1 _ rfl
    have hs := send_any { rf.msg0 with kind := 4, dst := m.frm } hx2.st (EntsB.nil base _) (by have := HML.out; omega)
    unfold rf.msg0 at hs
    have HS := Lib.hid hs
    have HX2 := Lib.hid hx2
    clear hs hx2 hb c2' m3
    go_wp2_with fail
    refine HS.out.mono ?_
    rintro e w9 ⟨rfl, h9⟩
    obtain ⟨A9, c9, B9, d9, h10⟩ := HX2.out.call h9
    have H10 := Lib.hid h10
    clear h9 h10
    go_wp2
    refine bodyPost_ret (results_none rfl _ _ _) rfl ?_
    rw [HP.out]
    exact ⟨rfl, H10.out.to⟩
  · have hd : decide ((m.term : Int) < (n.term : Int)) = false := by simp; omega
    have hdn : decide (m.term < n.term) = false := by simp; omega
    have Hlt := Lib.hid hlt
    clear hlt
    go_wp2_with fail
    go_quiet (fail)
    have hb := below_drewN (Below.refl X.heap.size X) nq
    have hx2 := HXX.out.later hb
    have kb2 := HKB.out.below hb
    have hm2 := HMX.out.later hb
    have m3 := kb2.cell 3 _ rfl
    have hs := back_any m.term hx2.st
    obtain ⟨X2, hX2⟩ : ∃ X2, X.drewN nq = X2 := ⟨_, rfl⟩
    rw [hX2] at hx2 kb2 hm2 m3 hs ⊢
    have HS := Lib.hid hs
    have HX2 := Lib.hid hx2
    have HKB2 := Lib.hid kb2
    have HMX2 := Lib.hid hm2
    clear hs hx2 kb2 hm2 hb hX2 c2' m1 HXX HKB HMX
    go_wp2_with fail
    refine HS.out.mono ?_
    rintro e w3 ⟨rfl, h3, ho3⟩
    have hk3 := ho3.blk HKB2.out hbs
    have hm3 : EntsB base w3 (.slice A2 k2 c2) m.ents := by
      obtain ⟨_, _, _, _, _, h4, h5⟩ := h3
      exact HMX2.out.keep h4 h5 HX2.out.st.blk
    obtain ⟨A3, c3, B3, d3, hx3⟩ := HX2.out.call h3
    have ht1 := back_same n m.term
    obtain ⟨n1, hn1⟩ : ∃ n1, rf.back n m.term = n1 := ⟨_, rfl⟩
    rw [hn1] at hx3 ht1
    obtain ⟨hlog1, hid1, hmany1, hcom1, hidle1⟩ := ht1
    have htk : rf.taken n m = { n1 with lead := m.frm, idle := 0 } := by unfold rf.taken; rw [hn1]
    have c6 := hx3.st.cell 6 _ (stC_low _ _ 6 _ rfl)
    have c8 := hx3.st.cell 8 _ (stC_low _ _ 8 _ rfl)
    have f6 := hx3.st.free 6
    have f8 := hx3.st.free 8
    have m1 := hk3.cell 1 _ rfl
    have h4 := ((hx3.store 6 (.int .i64 m.frm) (n' := { n1 with lead := m.frm }) rfl rfl (hx3.st.ok.of rfl rfl rfl)).store 8 (.int .i64 0) (n' := rf.taken n m) (by rw [htk]; rfl) (by rw [htk]) (by rw [htk]; exact hx3.st.ok.of rfl rfl rfl))
    have k4 := (hk3.other ⟨s, 6, none⟩ (.int .i64 m.frm) hbs).other ⟨s, 8, none⟩ (.int .i64 0) hbs
    have hm4 := (hm3.keep (Keeps.set s 6 w3 (.int .i64 m.frm)) ((Below.refl _ w3).setCell (p := ⟨s, 6, none⟩) hx3.st.sb _) hx3.st.blk)
    have hm5 := hm4.keep (Keeps.set s 8 _ (.int .i64 0)) ((Below.refl _ _).setCell (p := ⟨s, 8, none⟩) hx3.st.sb _) (hx3.st.blk.set 6 _)
    obtain ⟨L, hL⟩ : ∃ L, n.log.length = L := ⟨_, rfl⟩
    have htl : (rf.taken n m).log = n.log := by rw [htk]; exact hlog1
    rw [hlog1, hL] at h4
    obtain ⟨Y, hY⟩ : ∃ Y, (w3.setCell ⟨s, 6, none⟩ (.int .i64 m.frm)).setCell ⟨s, 8, none⟩ (.int .i64 0) = Y := ⟨_, rfl⟩
    rw [hY] at h4 k4 hm5
    obtain ⟨t1, ht1⟩ : ∃ t1, rf.taken n m = t1 := ⟨_, rfl⟩
    rw [ht1] at h4 htl
    have hput0 : rl.termAt n.log m.index = (m.at_, true) → rf.put n m = ({ t1 with log := (rl.match_ n.log m.index m.at_ m.ents).1, commit := max n.commit (min m.commit (rl.match_ n.log m.index m.at_ m.ents).2.1) }, [rf.stamp t1 { rf.msg0 with kind := 4, dst := m.frm, ok := true, index := (rl.match_ n.log m.index m.at_ m.ents).2.1 }]) := by
      intro h
      unfold rf.put rl.match_
      rw [if_neg Hlt.out, ht1, htl, if_pos h]
      rfl
    have hput3 : ¬ rl.termAt n.log m.index = (m.at_, true) → rf.put n m = (t1, [rf.stamp t1 { rf.msg0 with kind := 4, dst := m.frm, index := L }]) := by
      intro h
      unfold rf.put rl.match_
      rw [if_neg Hlt.out, ht1, htl, if_neg h, hL]
      rfl
    have hput := And.intro hput0 hput3
    have htc : t1.commit = n.commit := by rw [← ht1, htk]; exact hcom1
    have HP := Lib.hid hput
    have H4 := Lib.hid h4
    have HK4 := Lib.hid k4
    have HM5 := Lib.hid hm5
    have HY := Lib.hid hY
    have HL := Lib.hid hL
    have HTL := Lib.hid htl
    have HTC := Lib.hid htc
    clear hput hput0 hput3 h4 k4 hm4 hm5 hY hL htl htc hx3 hk3 hm3 hlog1 hid1 hmany1 hcom1 hidle1 htk hn1 ht1 h3 ho3 HS HX2 HKB2 HMX2 m3
    go_upto_region 5 with fail
    rw [HY.out]
    clear c6 c8 f6 f8 m1
    have MK : Hid (∀ w', Below Y.heap.size Y w' → w'.cell? ⟨s, 2, none⟩ = some (.int .u64 (t1.term : Int)) ∧ w'.cell? ⟨s, 3, none⟩ = some (.int .i64 t1.vote) ∧ w'.cell? ⟨s, 4, none⟩ = some (.slice A3 L c3) ∧ w'.cell? ⟨bm, 4, none⟩ = some (.int .u64 (m.index : Int)) ∧ w'.cell? ⟨bm, 5, none⟩ = some (.int .u64 (m.at_ : Int)) ∧ w'.cell? ⟨bm, 7, none⟩ = some (.slice A2 k2 c2)) := Lib.hid (fun w' h => by
      have h1 := H4.out.later h
      have k1 := HK4.out.below h
      exact ⟨h1.st.cell 2 _ (stC_low _ _ 2 _ rfl), h1.st.cell 3 _ (stC_low _ _ 3 _ rfl), h1.st.cell 4 _ (stC_low _ _ 4 _ rfl), k1.cell 4 _ rfl, k1.cell 5 _ rfl, k1.cell 7 _ rfl⟩)
    have hW : Below Y.heap.size Y Y.drew := below_drewN (Below.refl _ Y) 1
    have hWA : Below Y.heap.size Y (Y.alloc (.cells #[.int .u64 0, .int .i64 0, .slice none 0 0] 46)).drew := below_drewN ((Below.refl _ Y).alloc (Nat.le_refl _) _) 1
    have zA : Blk (Y.alloc (.cells #[.int .u64 0, .int .i64 0, .slice none 0 0] 46)).drew Y.heap.size [.int .u64 0, .int .i64 0, .slice none 0 0] 46 := Blk.new Y [.int .u64 0, .int .i64 0, .slice none 0 0] _
    have HZA := Lib.hid zA
    have hgA : Y.heap.size ≤ Y.heap.size := Nat.le_refl _
    clear zA
    obtain ⟨M, hM⟩ : ∃ M, rl.match_ n.log m.index m.at_ m.ents = M := ⟨_, rfl⟩
    have HM := Lib.hid hM
    clear hM
    go_cut [4, 5, 6] (fun s4 s5 s6 wx => ∃ (A9 : Option Addr) (c9 g : Nat), s4 = .pointer (some ⟨g, 0, none⟩) ∧ s5 = .int .u64 (M.2.1 : Nat) ∧ s6 = .int .i64 (M.2.2 : Nat) ∧ Blk wx g [.int .u64 (t1.term : Int), .int .i64 t1.vote, .slice A9 M.1.length c9] 46 ∧ EntsB base wx (.slice A9 M.1.length c9) M.1 ∧ Below Y.heap.size Y wx)
    case first =>
      go_region_held3 (fun w' => w'.cell? ⟨s, 2, none⟩ = some (.int .u64 (t1.term : Int)) ∧ w'.cell? ⟨s, 3, none⟩ = some (.int .i64 t1.vote) ∧ w'.cell? ⟨s, 4, none⟩ = some (.slice A3 L c3) ∧ w'.cell? ⟨bm, 4, none⟩ = some (.int .u64 (m.index : Int)) ∧ w'.cell? ⟨bm, 5, none⟩ = some (.int .u64 (m.at_ : Int)) ∧ w'.cell? ⟨bm, 7, none⟩ = some (.slice A2 k2 c2))
        (first | with_reducible exact MK.out _ hW | with_reducible exact MK.out _ hWA | with_reducible exact MK.out _ (hW.alloc hW.size _) | with_reducible exact MK.out _ (hW.box3 _ hgA _ _ _) | with_reducible exact MK.out _ ((hW.alloc hW.size _).box3 _ hW.size _ _ _))
        (first | (go_at_call 83; refine (match_any t1.term t1.vote _ _ n.log m.ents m.index m.at_ _ (by have h1 := (H4.out.later hW).st.ents.1; rw [HTL.out] at h1; exact h1) (HM5.out.later hW).1 HLog.out HMM.out HIX.out).mono ?_; rintro e w6 ⟨u, rfl, hE, hT, hb⟩; rw [HM.out] at hE ⊢; obtain ⟨Au, cu, hu⟩ := ents_form hE; subst hu; unfold stV; have hW := hW.trans (hb.mono hW.size)) | (go_at_call 83; refine (match_any t1.term t1.vote _ _ n.log m.ents m.index m.at_ _ (by have h1 := (H4.out.later hWA).st.ents.1; rw [HTL.out] at h1; exact h1) (HM5.out.later hWA).1 HLog.out HMM.out HIX.out).mono ?_; rintro e w6 ⟨u, rfl, hE, hT, hb⟩; rw [HM.out] at hE ⊢; obtain ⟨Au, cu, hu⟩ := ents_form hE; subst hu; unfold stV; have hW := hWA.trans (hb.mono hWA.size); have hz := HZA.out.below hb; have z0 := hz.cell 0 _ rfl; have z1 := hz.cell 1 _ rfl; have z2 := hz.cell 2 _ rfl; have zf0 := hz.free 0; have zf1 := hz.free 1; have zf2 := hz.free 2))
      all_goals
        go_wp2_with fail
        go_meet
        have hEB : EntsB base w6 (.slice Au M.1.length cu) M.1 := EntsB.of_match (H4.out.later hW).st.ents hE hT
        first
          | exact ⟨Au, cu, w6.heap.size, rfl, rfl, rfl, Blk.new w6 _ _, hEB.later ((Below.refl _ w6).alloc (Nat.le_refl _) _), hW.alloc hW.size _⟩
          | exact ⟨Au, cu, Y.heap.size, rfl, rfl, rfl, (hEB.box3 H4.out.st.baseLe hz).2, (hEB.box3 H4.out.st.baseLe hz).1, hW.box3 _ hgA _ _ _⟩
    case rest =>
      obtain ⟨A9, c9, g, rfl, rfl, rfl, kg, hE9, hb9⟩ := hcut
      have hx9 := H4.out.later hb9
      have hk9 := HK4.out.below hb9
      have hgs : ¬ g = s := by
        intro e
        subst e
        have h1 := hx9.st.blk
        unfold Blk at h1 kg
        rw [h1] at kg
        injection kg with kg
        injection kg with _ kg _
        exact absurd kg (by decide)
      have hgs2 : ¬ s = g := fun e => hgs e.symm
      have m1 := hk9.cell 1 _ rfl
      have m6 := hk9.cell 6 _ rfl
      have c2 := hx9.st.cell 2 _ (stC_low _ _ 2 _ rfl)
      have c3 := hx9.st.cell 3 _ (stC_low _ _ 3 _ rfl)
      have c4 := hx9.st.cell 4 _ (stC_low _ _ 4 _ rfl)
      have c7 := hx9.st.cell 7 _ (stC_low _ _ 7 _ rfl)
      have f2 := hx9.st.free 2
      have f3 := hx9.st.free 3
      have f4 := hx9.st.free 4
      have f7 := hx9.st.free 7
      have g0 := kg.cell 0 _ rfl
      have g1 := kg.cell 1 _ rfl
      have g2 := kg.cell 2 _ rfl
      have HX9 := Lib.hid hx9
      have HK9 := Lib.hid hk9
      have HE9 := Lib.hid hE9
      clear hx9 hk9 hE9 hb9 hW hWA hgA kg MK
      by_cases hM : rl.termAt n.log m.index = (m.at_, true)
      · have hp := HP.out.1 hM
        rw [HM.out] at hp
        have hM0 : M.2.2 = 0 := by rw [← HM.out]; unfold rl.match_; rw [if_pos hM]
        have HPP := Lib.hid hp
        clear hp hM
        obtain ⟨M1, M2, M3⟩ := M
        dsimp only at *
        subst hM0
        obtain ⟨E, hE⟩ : ∃ E, max n.commit (min m.commit M2) = E := ⟨_, rfl⟩
        have hEi : max (t1.commit : Int) (min (m.commit : Int) (M2 : Int)) = (E : Int) := by rw [HTC.out]; omega
        have q1 := (HX9.out.store 2 (.int .u64 (t1.term : Int)) (n' := t1) rfl rfl HX9.out.st.ok).store 3 (.int .i64 t1.vote) (n' := t1) rfl rfl HX9.out.st.ok
        have e1 : EntsB base ((wc.setCell ⟨s, 2, none⟩ (.int .u64 (t1.term : Int))).setCell ⟨s, 3, none⟩ (.int .i64 t1.vote)) (.slice A9 M1.length c9) M1 :=
          (HE9.out.keep (Keeps.set s 2 wc _) ((Below.refl _ wc).setCell (p := ⟨s, 2, none⟩) HX9.out.st.sb _) HX9.out.st.blk).keep (Keeps.set s 3 _ _) ((Below.refl _ _).setCell (p := ⟨s, 3, none⟩) HX9.out.st.sb _) (HX9.out.st.blk.set 2 _)
        have q2 := ((q1.setLog (.slice A9 M1.length c9) M1 e1).store 7 (.int .u64 (E : Int)) (n' := { t1 with log := M1, commit := E }) rfl rfl (HX9.out.st.ok.of rfl rfl rfl)).drew
        have k2 := ((((HK9.out.other ⟨s, 2, none⟩ (.int .u64 (t1.term : Int)) hbs).other ⟨s, 3, none⟩ (.int .i64 t1.vote) hbs).other ⟨s, 4, none⟩ (.slice A9 M1.length c9) hbs).other ⟨s, 7, none⟩ (.int .u64 (E : Int)) hbs).drew
        have m1' := k2.cell 1 _ rfl
        rw [hE] at HPP
        have hs := send_any { rf.msg0 with kind := 4, dst := m.frm, ok := true, index := M2 } q2.st (EntsB.nil base _) (by have := HML.out; omega)
        unfold rf.msg0 at hs
        have HS := Lib.hid hs
        have HQ2 := Lib.hid q2
        clear hs q1 q2 e1 k2 hE
        go_wp2_with fail
        go_region
        go_wp2_with fail
        refine HS.out.mono ?_
        rintro e w9 ⟨rfl, h9⟩
        obtain ⟨A10, c10, B10, d10, h10⟩ := HQ2.out.call h9
        have H10 := Lib.hid h10
        clear h9 h10
        go_wp2
        go_end0
        rw [HPP.out]
        exact ⟨rfl, H10.out.to⟩
      · have hp := HP.out.2 hM
        have hM0 : M.2.2 = 3 := by rw [← HM.out]; unfold rl.match_; rw [if_neg hM]
        have HPP := Lib.hid hp
        clear hp hM
        obtain ⟨M1, M2, M3⟩ := M
        dsimp only at *
        subst hM0
        go_wp2_with fail
        refine (last_any t1.term t1.vote _ t1.log _ HX9.out.st.ents.1 (by rw [HTL.out]; have := HLog.out; omega)).mono ?_
        rw [HTL.out, HL.out]
        rintro e w10 ⟨rfl, hb10⟩
        have hx10 := HX9.out.later hb10
        have m1' := (HK9.out.below hb10).cell 1 _ rfl
        have hs := send_any { rf.msg0 with kind := 4, dst := m.frm, index := L } hx10.st (EntsB.nil base _) (by have := HML.out; omega)
        unfold rf.msg0 at hs
        have HS := Lib.hid hs
        have HX10 := Lib.hid hx10
        clear hs hx10 hb10
        go_wp2_with fail
        refine HS.out.mono ?_
        rintro e w9 ⟨rfl, h9⟩
        obtain ⟨A10, c10, B10, d10, h10⟩ := HX10.out.call h9
        have H10 := Lib.hid h10
        clear h9 h10
        go_wp2
        refine bodyPost_ret (results_none rfl _ _ _) rfl ?_
        rw [HPP.out]
        have ht := H10.out.to
        exact ⟨rfl, ht⟩
end Go.Proofs.YtmcibggjolckoaaGreatDoor
namespace Go.Proofs.YtmcibggjolckoaaGreatDoor
open Go Go.RowKit Go.Deep
set_option maxRecDepth 100000

theorem getD_mem7 (l : List Nat) (k : Nat) (h : k < l.length) : l.getD k 0 ∈ l := by
  rw [List.getD_eq_getElem?_getD, List.getElem?_eq_getElem h]
  exact List.getElem_mem h
theorem tally_next (n : rf.Node) : (rf.tally n).next = n.next := by rw [tally_with]
set_option maxHeartbeats 8000000 in
theorem heard_any {base s : Nat} {w : World} {n : rf.Node} {A B : Option Addr} {c d : Nat} {ms : List rf.Msg} (m : rf.Msg) (A2 : Option Addr) (k2 c2 : Nat) (K : Nat) (hf : m.frm = (K : Int)) (hK7 : K < 7) (h : St base w s n (.slice A n.log.length c) (.slice B ms.length d) ms) (hm0 : 0 ≤ n.many) (hl : ms.length ≤ 900) (hlog : n.log.length ≤ 10000) :
    Calls Tryz.prog 65 #[.pointer (some ⟨s, 0, none⟩), msgV m (.slice A2 k2 c2)] w fun e w' => e = .returned (.tuple #[]) ∧ StTo base w s (rf.heard n m).1 (ms ++ (rf.heard n m).2) w' := by
  obtain ⟨X, bm, hX, hbm, hbX, kb⟩ := box_blk w (msgC m (.slice A2 k2 c2)) 83
  have hbs : ¬ bm = s := by have := h.blk.lt; omega
  have hbs2 : ¬ s = bm := fun e => hbs e.symm
  have hx := (Sx.start h).later hbX
  have c5 := hx.st.cell 5 _ (stC_low _ _ 5 _ rfl)
  have c2' := hx.st.cell 2 _ (stC_low _ _ 2 _ rfl)
  have m3 := kb.cell 3 _ rfl
  obtain ⟨L, hL⟩ : ∃ L, n.log.length = L := ⟨_, rfl⟩
  rw [hL] at hx hlog
  have HX := Lib.hid hX
  have HXX := Lib.hid hx
  have HKB := Lib.hid kb
  have HLog := Lib.hid hlog
  have HML := Lib.hid hl
  have HM0 := Lib.hid hm0
  have HF := Lib.hid hf
  have HL := Lib.hid hL
  have HK7 := Lib.hid hK7
  clear hX hx kb h hbX hl hlog hm0 hf hL
  unfold msgV msgC
  go_enter Tryz.func65, Tryz.ntmps65
  go_upto_region 1 with fail
  rw [show w.alloc (.cells #[.int .i64 m.kind, .int .i64 m.frm, .int .i64 m.dst, .int .u64 (m.term : Int), .int .u64 (m.index : Int), .int .u64 (m.at_ : Int), .int .u64 (m.commit : Int), .slice A2 k2 c2, .bool m.ok] 83) = X from HX.out]
  by_cases hr : n.role = 2
  · have f1 : (n.role != 2) = false := by rw [hr]; rfl
    by_cases ht : m.term = n.term
    · have f2 : ((m.term : Int) != (n.term : Int)) = false := by rw [ht]; simp
      have hh : rf.heard n m = (if m.ok = true then
          (if (rf.tally (rf.heardYes n K m.index)).next.getD K 0 ≤ L then (rf.tally (rf.heardYes n K m.index), [rf.stamp n (rf.putMsg (rf.tally (rf.heardYes n K m.index)) K)]) else (rf.tally (rf.heardYes n K m.index), []))
        else (rf.heardNo n K m.index, [rf.stamp n (rf.putMsg (rf.heardNo n K m.index) K)])) := by
        unfold rf.heard
        rw [if_pos ⟨hr, ht⟩, HF.out, Int.toNat_natCast, HL.out]
      have HH := Lib.hid hh
      clear hh hr ht
      go_wp2_with fail
      go_quiet (fail)
      have hb := below_drewN (Below.refl X.heap.size X) nq
      have hx2 := HXX.out.later hb
      have kb2 := HKB.out.below hb
      obtain ⟨X2, hX2⟩ : ∃ X2, X.drewN nq = X2 := ⟨_, rfl⟩
      rw [hX2] at hx2 kb2 ⊢
      have c2 := hx2.st.cell 2 _ (stC_low _ _ 2 _ rfl)
      have c3 := hx2.st.cell 3 _ (stC_low _ _ 3 _ rfl)
      have c4 := hx2.st.cell 4 _ (stC_low _ _ 4 _ rfl)
      have HX2 := Lib.hid hx2
      have HKB2 := Lib.hid kb2
      clear hx2 kb2 hb hX2 c5 c2' m3 HXX HKB
      go_wp2_with fail
      refine (last_any n.term n.vote _ n.log X2 HX2.out.st.ents.1 (by rw [HL.out]; have := HLog.out; omega)).mono ?_
      rw [HL.out]
      rintro e w3 ⟨rfl, hb3⟩
      have hx3 := HX2.out.later hb3
      have kb3 := HKB2.out.below hb3
      have m1 := kb3.cell 1 _ rfl
      rw [HF.out] at m1
      have m4 := kb3.cell 4 _ rfl
      have m8 := kb3.cell 8 _ rfl
      have hi0 : (0 : Int) ≤ (K : Int) := by omega
      have hi7 : (K : Int) < 7 := by omega
      have HX3 := Lib.hid hx3
      have HKB3 := Lib.hid kb3
      clear hx3 kb3 hb3 c2 c3 c4
      go_wp2_with fail
      go_quiet (fail)
      have hb := below_drewN (Below.refl w3.heap.size w3) nq
      have hx4 := HX3.out.later hb
      have kb4 := HKB3.out.below hb
      obtain ⟨X4, hX4⟩ : ∃ X4, w3.drewN nq = X4 := ⟨_, rfl⟩
      rw [hX4] at hx4 kb4 ⊢
      have hok := hx4.st.ok
      have cM := hx4.st.cell (23 + K) _ (stC_low _ _ _ _ (ndC_mat hok _ K HK7.out))
      have cN := hx4.st.cell (16 + K) _ (stC_low _ _ _ _ (ndC_next hok _ K HK7.out))
      have fM := hx4.st.free (23 + K)
      have fN := hx4.st.free (16 + K)
      have m1 := kb4.cell 1 _ rfl
      rw [HF.out] at m1
      have m4 := kb4.cell 4 _ rfl
      have m8 := kb4.cell 8 _ rfl
      obtain ⟨mt, hmt⟩ : ∃ x, n.mat.getD K 0 = x := ⟨_, rfl⟩
      obtain ⟨nx, hnx⟩ : ∃ x, n.next.getD K 0 = x := ⟨_, rfl⟩
      have hmtb : mt ≤ 1000000000 := by rw [← hmt]; exact hok.ms _ (getD_mem7 _ _ (by rw [hok.m7]; exact HK7.out))
      have hnxb : nx ≤ 1000000001 := by rw [← hnx]; exact hok.ns _ (getD_mem7 _ _ (by rw [hok.n7]; exact HK7.out))
      rw [hmt] at cM
      rw [hnx] at cN
      have HX4 := Lib.hid hx4
      have HKB4 := Lib.hid kb4
      have HMT := Lib.hid hmt
      have HNX := Lib.hid hnx
      clear hx4 kb4 hb hX4 hok hmt hnx
      cases hok : m.ok with
      | true =>
        rw [hok] at m8
        have hh := HH.out
        rw [if_pos hok] at hh
        have hHY : rf.heardYes n K m.index = { n with mat := n.mat.set K (max mt (min m.index L)), next := n.next.set K (max mt (min m.index L) + 1) } := by unfold rf.heardYes; rw [HMT.out, HL.out]
        obtain ⟨V1, hV1⟩ : ∃ V, max mt (min m.index L) = V := ⟨_, rfl⟩
        have hV1i : max (mt : Int) (min (m.index : Int) (L : Int)) = (V1 : Int) := by omega
        obtain ⟨V2, hV2⟩ : ∃ V, V1 + 1 = V := ⟨_, rfl⟩
        have hV1b : V1 ≤ 1000000000 := by have := HLog.out; omega
        have hV2i : IntKind.u64.wrap ((V1 : Int) + 1) = (V2 : Int) := by rw [show (V1 : Int) + 1 = (V2 : Int) by omega]; exact wrap_u64_in (by omega) (by omega)
        rw [hV1, hV2] at hHY
        have q1 := HX4.out.store (23 + K) (.int .u64 (V1 : Int)) (n' := { n with mat := n.mat.set K V1 }) (stC_setM HX4.out.st.ok _ _ K HK7.out V1) rfl (HX4.out.st.ok.setM K V1 hV1b)
        have q2 := (q1.store (16 + K) (.int .u64 (V2 : Int)) (n' := { n with mat := n.mat.set K V1, next := n.next.set K V2 }) (stC_setN q1.st.ok _ _ K HK7.out V2) rfl (q1.st.ok.setN K V2 (by omega))).drew
        rw [← hHY] at q2
        have k2 := ((HKB4.out.other ⟨s, 23 + K, none⟩ (.int .u64 (V1 : Int)) hbs).other ⟨s, 16 + K, none⟩ (.int .u64 (V2 : Int)) hbs).drew
        obtain ⟨g, hg⟩ : ∃ g, rf.heardYes n K m.index = g := ⟨_, rfl⟩
        rw [hg] at q2 hh hHY
        have hgl : g.log = n.log := by rw [hHY]
        have hgm : g.many = n.many := by rw [hHY]
        have hgn : g.next.getD K 0 = V2 := by
          rw [hHY, List.getD_eq_getElem?_getD, List.getElem?_set_self (by rw [HX4.out.st.ok.n7]; exact HK7.out)]
          rfl
        have hgst : ∀ mm, rf.stamp n mm = rf.stamp (rf.tally g) mm := by
          intro mm
          rw [tally_with, hHY]
          rfl
        have HHH := Lib.hid hh
        have HQ2 := Lib.hid q2
        have HK2 := Lib.hid k2
        have HGL := Lib.hid hgl
        have HGM := Lib.hid hgm
        have HGN := Lib.hid hgn
        have HGS := Lib.hid hgst
        clear q1 q2 k2 hh hHY hV1 hV2 hg hgl hgm hgn hgst hok hmtb hnxb HH
        go_wp2_with fail
        go_region
        go_wp2_with fail
        have hq2 := HQ2.out
        rw [← HL.out, ← HGL.out] at hq2
        have HQ3 := Lib.hid hq2
        clear hq2
        refine (tally_any HQ3.out.st (by rw [HGM.out]; exact HM0.out) (by rw [HGL.out, HL.out]; exact HLog.out)).mono ?_
        rintro e w5 ⟨rfl, h5, ho5⟩
        have kb5 := ho5.blk HK2.out hbs
        obtain ⟨A5, c5, B5, d5, hx5⟩ := HQ3.out.call h5
        have cN5 := hx5.st.cell (16 + K) _ (stC_low _ _ _ _ (ndC_next hx5.st.ok _ K HK7.out))
        rw [tally_next, HGN.out] at cN5
        have m1' := kb5.cell 1 _ rfl
        rw [HF.out] at m1'
        have HX5 := Lib.hid hx5
        clear hx5 h5 ho5 kb5
        by_cases hle : V2 ≤ L
        · have hd : decide ((V2 : Int) ≤ (L : Int)) = true := by simp; exact hle
          have hdn : decide (V2 ≤ L) = true := by simp; exact hle
          have hh := HHH.out
          rw [tally_next, HGN.out, if_pos hle, HGS.out] at hh
          have HHF := Lib.hid hh
          clear hh
          go_wp2_with fail
          refine (kput_any K HX5.out.st HK7.out (by have := HML.out; omega) (by rw [tally_log, HGL.out, HL.out]; exact HLog.out)).mono ?_
          rintro e w6 ⟨rfl, h6⟩
          obtain ⟨A6, c6, B6, d6, h10⟩ := HX5.out.call h6
          have H10 := Lib.hid h10
          clear h6 h10
          go_wp2
          refine bodyPost_ret (results_none rfl _ _ _) rfl ?_
          rw [HHF.out]
          exact ⟨rfl, H10.out.to⟩
        · have hd : decide ((V2 : Int) ≤ (L : Int)) = false := by simp; omega
          have hdn : decide (V2 ≤ L) = false := by simp; omega
          have hh := HHH.out
          rw [tally_next, HGN.out, if_neg hle] at hh
          have HHF := Lib.hid hh
          clear hh
          go_wp2
          refine bodyPost_ret (results_none rfl _ _ _) rfl ?_
          rw [HHF.out, List.append_nil]
          exact ⟨rfl, HX5.out.to⟩
      | false =>
        rw [hok] at m8
        have hh := HH.out
        rw [if_neg (by rw [hok]; simp)] at hh
        obtain ⟨V, hV⟩ : ∃ V, max (min (max nx 1 - 1) (min m.index L + 1)) (mt + 1) = V := ⟨_, rfl⟩
        have hHN : rf.heardNo n K m.index = { n with next := n.next.set K V } := by unfold rf.heardNo; rw [HMT.out, HNX.out, HL.out, hV]
        have hLb := HLog.out
        obtain ⟨a1, ha1⟩ : ∃ a : Nat, max nx 1 = a + 1 := ⟨max nx 1 - 1, by omega⟩
        have i1 : max (nx : Int) 1 = ((a1 + 1 : Nat) : Int) := by omega
        have i2 : IntKind.u64.wrap (max (nx : Int) 1 - 1) = (a1 : Int) := by rw [i1, show ((a1 + 1 : Nat) : Int) - 1 = (a1 : Int) by omega]; exact wrap_u64_in (by omega) (by omega)
        have i3 : IntKind.u64.wrap (min (m.index : Int) (L : Int) + 1) = min (m.index : Int) (L : Int) + 1 := wrap_u64_in (by omega) (by omega)
        have i4 : IntKind.u64.wrap ((mt : Int) + 1) = (mt : Int) + 1 := wrap_u64_in (by omega) (by omega)
        have i5 : max (min (a1 : Int) (min (m.index : Int) (L : Int) + 1)) ((mt : Int) + 1) = (V : Int) := by omega
        have q1 := (HX4.out.store (16 + K) (.int .u64 (V : Int)) (n' := { n with next := n.next.set K V }) (stC_setN HX4.out.st.ok _ _ K HK7.out V) rfl (HX4.out.st.ok.setN K V (by omega))).drew
        rw [← hHN] at q1
        have k1 := (HKB4.out.other ⟨s, 16 + K, none⟩ (.int .u64 (V : Int)) hbs).drew
        have m1' := k1.cell 1 _ rfl
        rw [HF.out] at m1'
        have hgst : ∀ mm, rf.stamp n mm = rf.stamp (rf.heardNo n K m.index) mm := by
          intro mm
          rw [hHN]
          rfl
        rw [hgst] at hh
        obtain ⟨g, hg⟩ : ∃ g, rf.heardNo n K m.index = g := ⟨_, rfl⟩
        rw [hg] at q1 hh hHN
        have hgl : g.log = n.log := by rw [hHN]
        rw [← HL.out, ← hgl] at q1
        have HHF := Lib.hid hh
        have HQ1 := Lib.hid q1
        have HGL := Lib.hid hgl
        clear q1 k1 hh hHN hV ha1 i1 hLb hgst hg hgl hok hmtb hnxb HH
        go_wp2_with fail
        go_region
        go_wp2_with fail
        refine (kput_any K HQ1.out.st HK7.out (by have := HML.out; omega) (by rw [HGL.out, HL.out]; exact HLog.out)).mono ?_
        rintro e w6 ⟨rfl, h6⟩
        obtain ⟨A6, c6, B6, d6, h10⟩ := HQ1.out.call h6
        have H10 := Lib.hid h10
        clear h6 h10
        go_wp2
        go_end0
        rw [HHF.out]
        exact ⟨rfl, H10.out.to⟩
    · have f2 : ((m.term : Int) != (n.term : Int)) = true := by rw [bne_iff_ne]; omega
      have hh : rf.heard n m = (n, []) := by unfold rf.heard; rw [if_neg (fun h => ht h.2)]
      have HH := Lib.hid hh
      clear hh hr ht
      go_wp2_with fail
      go_quiet (fail)
      have hx2 := HXX.out.later (below_drewN (Below.refl X.heap.size X) nq)
      have HX2 := Lib.hid hx2
      clear hx2
      go_wp2
      refine bodyPost_ret (results_none rfl _ _ _) rfl ?_
      rw [HH.out, List.append_nil]
      exact ⟨rfl, HX2.out.to⟩
  · have f1 : (n.role != 2) = true := by rw [bne_iff_ne]; exact hr
    have hh : rf.heard n m = (n, []) := by unfold rf.heard; rw [if_neg (fun h => hr h.1)]
    have HH := Lib.hid hh
    clear hh hr
    go_wp2_with fail
    go_quiet (fail)
    have hx2 := HXX.out.later (below_drewN (Below.refl X.heap.size X) nq)
    have HX2 := Lib.hid hx2
    clear hx2
    go_wp2
    refine bodyPost_ret (results_none rfl _ _ _) rfl ?_
    rw [HH.out, List.append_nil]
    exact ⟨rfl, HX2.out.to⟩
end Go.Proofs.YtmcibggjolckoaaGreatDoor
