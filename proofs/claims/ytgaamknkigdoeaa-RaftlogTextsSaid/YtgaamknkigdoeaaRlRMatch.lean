/- The document's Match, walked. -/
import Derived.Test.YtgaamknkigdoeaaRlMatchSome
import Derived.Deep.RegionLaw
namespace Go.Proofs.Ytgaamknkigdoeaa
open Go Go.RowKit

set_option maxHeartbeats 2000000 in
theorem rmatch_none (T : Nat) (V : Int) (A : Option Addr) (n c : Nat) (ls : List rl.Ent) (prev pt : Nat) (lv : Value) (l : List rl.Ent) (w : World) (hn : ls.length = n) (hv : Ents w (.slice A n c) ls) (hl : n ≤ 10000) (hp : prev < 18446744073709551616) (hne : rl.termAt ls prev ≠ (pt, true)) :
    Calls Try.prog 17 #[stV T V (.slice A n c), .int .u64 (prev : Int), .int .u64 (pt : Int), lv] w (MatchPost T V ls prev pt l w) := by
  have hfin : rl.match_ ls prev pt l = (ls, 0, 3) := by unfold rl.match_; rw [if_neg hne]
  have hb : Below w.heap.size w ((w.alloc (.cells #[.int .u64 (T : Int), .int .i64 V, .slice A n c] 38)).alloc (.cells #[.int .u64 0, .int .i64 0, .slice none 0 0] 38)) := ((Below.refl _ w).alloc (Nat.le_refl _) _).alloc (by simp) _
  have bs := (Blk.new w [.int .u64 (T : Int), .int .i64 V, .slice A n c] 38).alloc (.cells #[.int .u64 0, .int .i64 0, .slice none 0 0] 38)
  have br := Blk.new (w.alloc (.cells #[.int .u64 (T : Int), .int .i64 V, .slice A n c] 38)) [.int .u64 0, .int .i64 0, .slice none 0 0] 38
  simp only [World.size_alloc] at br
  have hta := rtermAt_any T V (.slice A n c) ls prev _ (hv.below hb) (by omega) hp
  obtain ⟨t, is, ht⟩ : ∃ t is, rl.termAt ls prev = (t, is) := ⟨_, _, rfl⟩
  rw [ht] at hta hne
  have Hfin := Lib.hid hfin
  have HTA := Lib.hid hta
  have Hb := Lib.hid hb
  have HBS := Lib.hid bs
  have HBR := Lib.hid br
  have Hv := Lib.hid hv
  clear hfin hta hb bs br hv ht
  unfold stV at *
  go_enter Try.func17, Try.ntmps17
  go_wp2_with fail
  refine HTA.out.mono ?_
  rintro e w1 ⟨rfl, hb1⟩
  have bs1 := HBS.out.below hb1
  have br1 := HBR.out.below hb1
  have HB1 := Lib.hid (Hb.out.trans (hb1.mono Hb.out.size))
  have s0 := bs1.cell 0 _ rfl
  have s1 := bs1.cell 1 _ rfl
  have s2 := bs1.cell 2 _ rfl
  have f0 := br1.free 0
  have f1 := br1.free 1
  have f2 := br1.free 2
  have r0 := br1.cell 0 _ rfl
  have r1 := br1.cell 1 _ rfl
  have r2 := br1.cell 2 _ rfl
  have hR2 := ((br1.set 0 (.int .u64 (T : Int))).set 1 (.int .i64 V)).set 2 (.slice A n c)
  have HR2 := Lib.hid hR2
  clear hb1 bs1 br1 hR2
  have hend : ∀ X : World, X = ((w1.setCell ⟨w.heap.size + 1, 0, none⟩ (.int .u64 (T : Int))).setCell ⟨w.heap.size + 1, 1, none⟩ (.int .i64 V)).setCell ⟨w.heap.size + 1, 2, none⟩ (.slice A n c) → Below w.heap.size w X := by
    rintro X rfl
    have g := grown_trans (grown_trans (set_grown w1 ⟨w.heap.size + 1, 0, none⟩ (.int .u64 (T : Int))) (set_grown _ ⟨w.heap.size + 1, 1, none⟩ (.int .i64 V))) (set_grown _ ⟨w.heap.size + 1, 2, none⟩ (.slice A n c))
    exact HB1.out.grown g HB1.out.size (fun j hj => by cases hj; exact Nat.le_succ _)
  have HEND := Lib.hid hend
  clear hend
  cases is with
  | false =>
    go_wp2
    refine bodyPost_ret (results_cell_two rfl _ _ (w.heap.size + 1) _ _ (0, 0) _ rfl HR2.out Try.underlying38 rfl rstate_size) rfl ?_
    unfold MatchPost
    rw [Hfin.out]
    exact ⟨_, rfl, Hv.out.below (HEND.out _ rfl), HEND.out _ rfl⟩
  | true =>
    have hne' : ((t : Int) != (pt : Int)) = true := by
      rw [bne_iff_ne]; intro h; apply hne; rw [show t = pt from by omega]
    go_wp2
    refine bodyPost_ret (results_cell_two rfl _ _ (w.heap.size + 1) _ _ (0, 0) _ rfl HR2.out Try.underlying38 rfl rstate_size) rfl ?_
    unfold MatchPost
    rw [Hfin.out]
    exact ⟨_, rfl, Hv.out.below (HEND.out _ rfl), HEND.out _ rfl⟩

theorem rmatch_end (T : Nat) (V : Int) (ls : List rl.Ent) (prev pt : Nat) (l : List rl.Ent) (w X : World) (tmps : Array Value) (u : Value) (hb : Below w.heap.size w X)
    (hR : Blk X (w.heap.size + 1) [.int .u64 0, .int .i64 0, .slice none 0 0] 38) (hE : Ents X u (rl.match_ ls prev pt l).1)
    (h8 : tmps.getD 8 undef = .pointer (some ⟨w.heap.size + 1, 0, none⟩)) (h9 : tmps.getD 9 undef = .int .u64 ((rl.match_ ls prev pt l).2.1 : Nat)) (h10 : tmps.getD 10 undef = .int .i64 ((rl.match_ ls prev pt l).2.2 : Nat)) :
    bodyPost Try.prog Try.f17 (MatchPost T V ls prev pt l w) Exit.ret { tmps := tmps, defers := [] }
      (((X.setCell ⟨w.heap.size + 1, 0, none⟩ (.int .u64 (T : Int))).setCell ⟨w.heap.size + 1, 1, none⟩ (.int .i64 V)).setCell ⟨w.heap.size + 1, 2, none⟩ u) := by
  have hE1 := hE.far hR (by intro x hx s e; subst e; simp at hx) 0 (.int .u64 (T : Int))
  have hR1 := hR.set 0 (.int .u64 (T : Int))
  have hE2 := hE1.far hR1 (by intro x hx s e; subst e; simp at hx) 1 (.int .i64 V)
  have hR2 := hR1.set 1 (.int .i64 V)
  have hE3 := hE2.far hR2 (by intro x hx s e; subst e; simp at hx) 2 u
  have hR3 := hR2.set 2 u
  have hb3 : Below w.heap.size w (((X.setCell ⟨w.heap.size + 1, 0, none⟩ (.int .u64 (T : Int))).setCell ⟨w.heap.size + 1, 1, none⟩ (.int .i64 V)).setCell ⟨w.heap.size + 1, 2, none⟩ u) :=
    ((hb.setCell (p := ⟨w.heap.size + 1, 0, none⟩) (Nat.le_succ _) _).setCell (p := ⟨w.heap.size + 1, 1, none⟩) (Nat.le_succ _) _).setCell (p := ⟨w.heap.size + 1, 2, none⟩) (Nat.le_succ _) _
  refine bodyPost_ret (results_cell_two rfl _ _ (w.heap.size + 1) _ _ (0, 0) _ h8 hR3 Try.underlying38 rfl rstate_size) rfl ?_
  rw [h9, h10]
  exact ⟨u, rfl, hE3, hb3⟩
theorem Ents.at_ {w : World} {A : Option Addr} {n c : Nat} {ls : List rl.Ent} (h : Ents w (.slice A n c) ls) (hlt : 0 < ls.length) : ∃ b o, A = some ⟨b, o, none⟩ ∧ EntsAt w b o ls := by
  obtain ⟨A', c', e, _, _, h0⟩ := h
  obtain ⟨rfl, _, rfl⟩ : A = A' ∧ n = ls.length ∧ c = c' := by injection e with e1 e2 e3; exact ⟨e1, e2, e3⟩
  exact h0 hlt
set_option maxRecDepth 100000 in
set_option maxHeartbeats 4000000 in
theorem rmatch_some (T : Nat) (V : Int) (A A2 : Option Addr) (n c n2 c2 : Nat) (ls l : List rl.Ent) (prev pt : Nat) (w : World) (hn : ls.length = n) (hn2 : l.length = n2) (hv : Ents w (.slice A n c) ls) (hv2 : Ents w (.slice A2 n2 c2) l) (hl : n ≤ 10000) (hl2 : n2 ≤ 10000)
    (hp : prev ≤ n) (hcc : c ≤ maxLen) (hnc : n ≤ c) (_hcc2 : c2 ≤ maxLen) (hnc2 : n2 ≤ c2) (hpt : rl.termAt ls prev = (pt, true)) :
    Calls Try.prog 17 #[stV T V (.slice A n c), .int .u64 (prev : Int), .int .u64 (pt : Int), .slice A2 n2 c2] w (MatchPost T V ls prev pt l w) := by
  have hb : Below w.heap.size w ((w.alloc (.cells #[.int .u64 (T : Int), .int .i64 V, .slice A n c] 38)).alloc (.cells #[.int .u64 0, .int .i64 0, .slice none 0 0] 38)) := ((Below.refl _ w).alloc (Nat.le_refl _) _).alloc (by simp) _
  have bs := (Blk.new w [.int .u64 (T : Int), .int .i64 V, .slice A n c] 38).alloc (.cells #[.int .u64 0, .int .i64 0, .slice none 0 0] 38)
  have br := Blk.new (w.alloc (.cells #[.int .u64 (T : Int), .int .i64 V, .slice A n c] 38)) [.int .u64 0, .int .i64 0, .slice none 0 0] 38
  simp only [World.size_alloc] at br
  have hta := rtermAt_any T V (.slice A n c) ls prev _ (hv.below hb) (by omega) (by omega)
  rw [hpt] at hta
  have e1 : ((pt : Int) != (pt : Int)) = false := by simp
  obtain ⟨i0, hi, hz0, hz1, hz2⟩ := info_parts info_ent
  obtain ⟨cm, hcm⟩ : ∃ cm, rl.common (ls.drop prev) l = cm := ⟨_, rfl⟩
  have hc1 := rl.common_le1 (ls.drop prev) l
  have hc2 := rl.common_le2 (ls.drop prev) l
  have hsp := rl.common_spec (ls.drop prev) l
  have hst := rl.common_stop (ls.drop prev) l
  have hld : (ls.drop prev).length = n - prev := by rw [List.length_drop, hn]
  have hdg : ∀ k, (ls.drop prev).getD k rl.e0 = ls.getD (prev + k) rl.e0 := fun k => by rw [List.getD_eq_getElem?_getD, List.getD_eq_getElem?_getD, List.getElem?_drop]
  rw [hcm, hld] at hc1
  rw [hcm, hn2] at hc2
  rw [hcm, hld, hn2] at hst
  rw [hcm] at hsp
  have hpw : IntKind.i64.wrap (prev : Int) = (prev : Int) := by simp [IntKind.wrap, IntKind.bits, IntKind.signed]; omega
  have HTA := Lib.hid hta
  have Hb := Lib.hid hb
  have HBS := Lib.hid bs
  have HBR := Lib.hid br
  have Hv := Lib.hid hv
  have Hv2 := Lib.hid hv2
  have Hn := Lib.hid hn
  have Hn2 := Lib.hid hn2
  have Hpt := Lib.hid hpt
  have HCM := Lib.hid hcm
  have HSP := Lib.hid hsp
  have HST := Lib.hid hst
  have HDG := Lib.hid hdg
  unfold maxLen at hcc
  clear hta hb bs br hv hv2 hn hn2 hpt hcm hsp hst hdg hld
  unfold stV at *
  go_enter Try.func17, Try.ntmps17
  go_wp2_with fail
  refine HTA.out.mono ?_
  rintro e w1 ⟨rfl, hb1⟩
  have bs1 := HBS.out.below hb1
  have br1 := HBR.out.below hb1
  have hbw := Hb.out.trans (hb1.mono Hb.out.size)
  have HB1 := Lib.hid hbw
  have HBS1 := Lib.hid bs1
  have HBR1 := Lib.hid br1
  clear bs1 br1 hb1 hbw HTA Hb HBS HBR
  go_wp2
  go_loopw [14] (fun i wr => ∃ k q : Nat, k ≤ cm ∧ i = .int .i64 k ∧ w1.drewN q = wr) (fun i _ => n2 - (intOf i).toNat)
  case atStart => exact ⟨0, 0, Nat.zero_le _, rfl, rfl⟩
  case round =>
    obtain ⟨k, q, hk, rfl, rfl⟩ := hrel
    by_cases hlt : k < n2
    · obtain ⟨pk, hpk⟩ : ∃ pk, prev + k = pk := ⟨_, rfl⟩
      have hpki : (prev : Int) + (k : Int) = (pk : Int) := by omega
      have hpkw : IntKind.i64.wrap ((prev : Int) + (k : Int)) = (pk : Int) := by rw [hpki]; simp [IntKind.wrap, IntKind.bits, IntKind.signed]; omega
      obtain ⟨b', o', rfl, hB⟩ := Hv2.out.at_ (by rw [Hn2.out]; omega)
      obtain ⟨y0, _⟩ := hB k (by rw [Hn2.out]; exact hlt)
      have y0' := cell_later HB1.out y0
      have s2 := HBS1.out.cell 2 _ rfl
      have hki2 : (k : Int) < (n2 : Int) := by omega
      clear hB y0
      by_cases hpn : pk < n
      · obtain ⟨b, o, rfl, hA⟩ := Hv.out.at_ (by rw [Hn.out]; omega)
        obtain ⟨x0, _⟩ := hA pk (by rw [Hn.out]; exact hpn)
        have x0' := cell_later HB1.out x0
        have hpi : (pk : Int) < (n : Int) := by omega
        clear hA x0
        obtain ⟨x, hx⟩ : ∃ x, ls.getD pk rl.e0 = x := ⟨_, rfl⟩
        obtain ⟨y, hy⟩ : ∃ y, l.getD k rl.e0 = y := ⟨_, rfl⟩
        rw [hx] at x0'
        rw [hy] at y0'
        by_cases hkc : k < cm
        · have hxy : x.1 = y.1 := by
            have := HSP.out k hkc
            rw [HDG.out, hpk, hx, hy] at this
            exact this
          have f1 : ((x.1 : Int) == (y.1 : Int)) = true := by rw [hxy]; simp
          clear hx hy hxy hpk hpki
          go_wp2
          go_quiet (fail)
          go_wp2
          go_roundw
          case rel => exact ⟨k + 1, _, by omega, by go_num, rfl⟩
          case measure => simp [intOf]; omega
        · obtain rfl : k = cm := by omega
          have hxy : x.1 ≠ y.1 := by
            have := HST.out (by omega) (by omega)
            rw [HDG.out, hpk, hx, hy] at this
            exact this
          have f1 : ((x.1 : Int) == (y.1 : Int)) = false := by rw [beq_eq_false_iff_ne]; omega
          clear hx hy hxy hpki
          go_wp2
          go_quiet (fail)
          rename_i nq
          clear x0' y0'
          go_wp2
          have hbW : Below w.heap.size w ((w1.drewN q).drewN nq) := below_drewN (below_drewN HB1.out _) _
          have bsW := HBS1.out.below (below_drewN (below_drewN (Below.refl _ w1) q) nq)
          have brW := HBR1.out.below (below_drewN (below_drewN (Below.refl _ w1) q) nq)
          obtain ⟨W, hW⟩ : ∃ W, (w1.drewN q).drewN nq = W := ⟨_, rfl⟩
          rw [hW] at hbW bsW brW ⊢
          clear hW s2
          have hck : ¬ c2 = k := by omega
          have s2 := bsW.cell 2 _ rfl
          have hpcc : (pk : Int) ≤ (c : Int) := by omega
          have hkn2 : (k : Int) ≤ (n2 : Int) := by omega
          have HBSW := Lib.hid bsW
          have HBRW := Lib.hid brW
          have HBW := Lib.hid hbW
          clear bsW brW hbW
          have hv1 : Ents W (.slice (some ⟨b, o, none⟩) pk c) (ls.take pk) := (ents_take Hv.out pk (by omega)).below HBW.out
          have hv2 : Ents W (.slice (some ⟨b', o' + k * 2, none⟩) (n2 - k) (c2 - k)) (l.drop k) := (ents_drop Hv2.out k (by omega) _ (fun b o e hlt => by cases e; rfl)).below HBW.out
          have hlt1 : (ls.take pk).length = pk := by rw [List.length_take, Hn.out]; omega
          have hlt2 : (l.drop k).length = n2 - k := by rw [List.length_drop, Hn2.out]
          have hfin : rl.match_ ls prev pt l = (ls.take pk ++ l.drop k, prev + n2, 0) := by
            unfold rl.match_
            rw [if_pos Hpt.out, HCM.out, Hn2.out, if_pos hlt, hpk]
          have hba : Below W.heap.size W (W.alloc (.cells #[] 65)) := (Below.refl _ W).alloc (Nat.le_refl _) _
          have s2a := (HBSW.out.below hba).cell 2 _ rfl
          have hown0 : (W.alloc (.cells #[] 65)).drew.ownsRow W.heap.size 65 2 (.slice (some ⟨W.heap.size, 0, none⟩) 0 0) 0 [] := ⟨by simp, .inr ⟨W.heap.size, 0, #[], rfl, Nat.le_refl _, heap_alloc_new W _, Nat.le_refl _, Nat.zero_le _, by simp, by simp⟩⟩
          have HF := Lib.hid hfin
          have HV1 := Lib.hid hv1
          have HV2 := Lib.hid hv2
          have HO0 := Lib.hid hown0
          have HBA := Lib.hid hba
          have Hl1 := Lib.hid hlt1
          have Hl2 := Lib.hid hlt2
          clear hfin hv1 hv2 hown0 hba hlt1 hlt2 hpk
          go_region_law (first | (refine step_append_opt _ rfl (.tmp 60) (.tmp 66) 36 rfl W.heap.size 65 i0 _ 2 24 Try.underlying36 hi hz0 hz1 hz2 rfl (by decide) (.slice (some ⟨W.heap.size, 0, none⟩) 0 0) 0 [] rfl HO0.out (some ⟨b, o, none⟩) pk c (entCells (ls.take pk)) rfl HV1.out.cells.1 ((HV1.out.below HBA.out).cells.2) (entCells_one _) ?_ ?_ ?_ ?_; unfold maxLen; omega; omega; simp; intro v1 w3 hown1 hgrow1; have hb3 : Below W.heap.size W w3 := (below_drewN HBA.out 1).grown hgrow1 (by simp) (fun j hj => by cases hj; exact Nat.le_refl _)) | (refine step_append_opt _ rfl (.tmp 67) (.tmp 70) 36 rfl W.heap.size 65 i0 _ 2 24 Try.underlying36 hi hz0 hz1 hz2 rfl (by decide) v1 _ _ rfl hown1 (some ⟨b', o' + k * 2, none⟩) (n2 - k) (c2 - k) (entCells (l.drop k)) rfl HV2.out.cells.1 ((HV2.out.below hb3).cells.2) (entCells_one _) ?_ ?_ ?_ ?_; unfold maxLen; omega; omega; exact hb3.size; intro v2 w4 hown2 hgrow2; obtain ⟨A', c', rfl⟩ := owns_slice hown2; have hb4 : Below W.heap.size W w4 := hb3.grown hgrow2 hb3.size (fun j hj => (hown1.lt j hj).1); have bs4 := HBSW.out.below hb4; have br4 := HBRW.out.below hb4; have g2 := bs4.cell 2 _ rfl; have gf := bs4.free 2))
          all_goals
            rw [Nat.zero_add] at hown2
            rw [List.nil_append, ← entCells_append] at hown2
            have hll : pk + (n2 - k) = (ls.take pk ++ l.drop k).length := by rw [List.length_append, Hl1.out, Hl2.out]
            have hE4 : Ents w4 (.slice A' (pk + (n2 - k)) c') (ls.take pk ++ l.drop k) := by
              rw [hll] at hown2 ⊢
              exact ents_of_owns hown2
            have hE5 := hE4.far bs4 (by intro x hx s e; subst e; simp at hx) 2 (.slice A' (pk + (n2 - k)) c')
            have bs5 := bs4.set 2 (.slice A' (pk + (n2 - k)) c')
            have br5 := br4.other ⟨w.heap.size, 2, none⟩ (.slice A' (pk + (n2 - k)) c') (show w.heap.size + 1 ≠ w.heap.size by omega)
            have hb5 : Below w.heap.size w (w4.setCell ⟨w.heap.size, 2, none⟩ (.slice A' (pk + (n2 - k)) c')) := (HBW.out.trans (hb4.mono HBW.out.size)).setCell (p := ⟨w.heap.size, 2, none⟩) (Nat.le_refl _) _
            obtain ⟨W5, hW5⟩ : ∃ W5, w4.setCell ⟨w.heap.size, 2, none⟩ (.slice A' (pk + (n2 - k)) c') = W5 := ⟨_, rfl⟩
            rw [hW5] at hE5 bs5 br5 hb5 ⊢
            have t0 := bs5.cell 0 _ rfl
            have t1 := bs5.cell 1 _ rfl
            have t2 := bs5.cell 2 _ rfl
            have f0 := br5.free 0
            have f1 := br5.free 1
            have f2 := br5.free 2
            have r0 := br5.cell 0 _ rfl
            have r1 := br5.cell 1 _ rfl
            have r2 := br5.cell 2 _ rfl
            have HE5 := Lib.hid hE5
            have HBR5 := Lib.hid br5
            have HB5 := Lib.hid hb5
            clear hE5 bs5 br5 hb5 hW5 hE4 hll hown2 hown1 hgrow1 hgrow2 hb3 hb4 bs4 br4 g2 gf s2 s2a HO0 HBA HV1 HV2 HDG HST HSP
            simp only [Exit.then]
            go_wp2
            refine rmatch_end T V ls prev pt l w W5 _ _ HB5.out HBR5.out ?_ rfl ?_ ?_
            · rw [HF.out]; exact HE5.out
            · rw [HF.out]; exact slot_u64 (by dsimp only; omega)
            · rw [HF.out]; rfl
      · obtain rfl : k = cm := by omega
        obtain rfl : pk = n := by omega
        have hd : decide ((pk : Int) < (pk : Int)) = false := by simp
        clear hpki y0'
        go_wp2
        go_quiet (fail)
        rename_i nq
        go_wp2
        have hbW : Below w.heap.size w ((w1.drewN q).drewN nq) := below_drewN (below_drewN HB1.out _) _
        have bsW := HBS1.out.below (below_drewN (below_drewN (Below.refl _ w1) q) nq)
        have brW := HBR1.out.below (below_drewN (below_drewN (Below.refl _ w1) q) nq)
        obtain ⟨W, hW⟩ : ∃ W, (w1.drewN q).drewN nq = W := ⟨_, rfl⟩
        rw [hW] at hbW bsW brW ⊢
        clear hW s2
        have hck : ¬ c2 = k := by omega
        have s2 := bsW.cell 2 _ rfl
        have hpcc : (pk : Int) ≤ (c : Int) := by omega
        have hkn2 : (k : Int) ≤ (n2 : Int) := by omega
        have HBSW := Lib.hid bsW
        have HBRW := Lib.hid brW
        have HBW := Lib.hid hbW
        clear bsW brW hbW
        have hv1 : Ents W (.slice A pk c) (ls.take pk) := (ents_take Hv.out pk (by omega)).below HBW.out
        have hv2 : Ents W (.slice (some ⟨b', o' + k * 2, none⟩) (n2 - k) (c2 - k)) (l.drop k) := (ents_drop Hv2.out k (by omega) _ (fun b o e hlt => by cases e; rfl)).below HBW.out
        have hlt1 : (ls.take pk).length = pk := by rw [List.length_take, Hn.out]; omega
        have hlt2 : (l.drop k).length = n2 - k := by rw [List.length_drop, Hn2.out]
        have hfin : rl.match_ ls prev pt l = (ls.take pk ++ l.drop k, prev + n2, 0) := by
          unfold rl.match_
          rw [if_pos Hpt.out, HCM.out, Hn2.out, if_pos hlt, hpk]
        have hba : Below W.heap.size W (W.alloc (.cells #[] 65)) := (Below.refl _ W).alloc (Nat.le_refl _) _
        have s2a := (HBSW.out.below hba).cell 2 _ rfl
        have hown0 : (W.alloc (.cells #[] 65)).drew.ownsRow W.heap.size 65 2 (.slice (some ⟨W.heap.size, 0, none⟩) 0 0) 0 [] := ⟨by simp, .inr ⟨W.heap.size, 0, #[], rfl, Nat.le_refl _, heap_alloc_new W _, Nat.le_refl _, Nat.zero_le _, by simp, by simp⟩⟩
        have HF := Lib.hid hfin
        have HV1 := Lib.hid hv1
        have HV2 := Lib.hid hv2
        have HO0 := Lib.hid hown0
        have HBA := Lib.hid hba
        have Hl1 := Lib.hid hlt1
        have Hl2 := Lib.hid hlt2
        clear hfin hv1 hv2 hown0 hba hlt1 hlt2 hpk
        go_region_law (first | (refine step_append_opt _ rfl (.tmp 60) (.tmp 66) 36 rfl W.heap.size 65 i0 _ 2 24 Try.underlying36 hi hz0 hz1 hz2 rfl (by decide) (.slice (some ⟨W.heap.size, 0, none⟩) 0 0) 0 [] rfl HO0.out A pk c (entCells (ls.take pk)) rfl HV1.out.cells.1 ((HV1.out.below HBA.out).cells.2) (entCells_one _) ?_ ?_ ?_ ?_; unfold maxLen; omega; omega; simp; intro v1 w3 hown1 hgrow1; have hb3 : Below W.heap.size W w3 := (below_drewN HBA.out 1).grown hgrow1 (by simp) (fun j hj => by cases hj; exact Nat.le_refl _)) | (refine step_append_opt _ rfl (.tmp 67) (.tmp 70) 36 rfl W.heap.size 65 i0 _ 2 24 Try.underlying36 hi hz0 hz1 hz2 rfl (by decide) v1 _ _ rfl hown1 (some ⟨b', o' + k * 2, none⟩) (n2 - k) (c2 - k) (entCells (l.drop k)) rfl HV2.out.cells.1 ((HV2.out.below hb3).cells.2) (entCells_one _) ?_ ?_ ?_ ?_; unfold maxLen; omega; omega; exact hb3.size; intro v2 w4 hown2 hgrow2; obtain ⟨A', c', rfl⟩ := owns_slice hown2; have hb4 : Below W.heap.size W w4 := hb3.grown hgrow2 hb3.size (fun j hj => (hown1.lt j hj).1); have bs4 := HBSW.out.below hb4; have br4 := HBRW.out.below hb4; have g2 := bs4.cell 2 _ rfl; have gf := bs4.free 2))
        all_goals
          rw [Nat.zero_add] at hown2
          rw [List.nil_append, ← entCells_append] at hown2
          have hll : pk + (n2 - k) = (ls.take pk ++ l.drop k).length := by rw [List.length_append, Hl1.out, Hl2.out]
          have hE4 : Ents w4 (.slice A' (pk + (n2 - k)) c') (ls.take pk ++ l.drop k) := by
            rw [hll] at hown2 ⊢
            exact ents_of_owns hown2
          have hE5 := hE4.far bs4 (by intro x hx s e; subst e; simp at hx) 2 (.slice A' (pk + (n2 - k)) c')
          have bs5 := bs4.set 2 (.slice A' (pk + (n2 - k)) c')
          have br5 := br4.other ⟨w.heap.size, 2, none⟩ (.slice A' (pk + (n2 - k)) c') (show w.heap.size + 1 ≠ w.heap.size by omega)
          have hb5 : Below w.heap.size w (w4.setCell ⟨w.heap.size, 2, none⟩ (.slice A' (pk + (n2 - k)) c')) := (HBW.out.trans (hb4.mono HBW.out.size)).setCell (p := ⟨w.heap.size, 2, none⟩) (Nat.le_refl _) _
          obtain ⟨W5, hW5⟩ : ∃ W5, w4.setCell ⟨w.heap.size, 2, none⟩ (.slice A' (pk + (n2 - k)) c') = W5 := ⟨_, rfl⟩
          rw [hW5] at hE5 bs5 br5 hb5 ⊢
          have t0 := bs5.cell 0 _ rfl
          have t1 := bs5.cell 1 _ rfl
          have t2 := bs5.cell 2 _ rfl
          have f0 := br5.free 0
          have f1 := br5.free 1
          have f2 := br5.free 2
          have r0 := br5.cell 0 _ rfl
          have r1 := br5.cell 1 _ rfl
          have r2 := br5.cell 2 _ rfl
          have HE5 := Lib.hid hE5
          have HBR5 := Lib.hid br5
          have HB5 := Lib.hid hb5
          clear hE5 bs5 br5 hb5 hW5 hE4 hll hown2 hown1 hgrow1 hgrow2 hb3 hb4 bs4 br4 g2 gf s2 s2a HO0 HBA HV1 HV2 HDG HST HSP
          simp only [Exit.then]
          go_wp2
          refine rmatch_end T V ls prev pt l w W5 _ _ HB5.out HBR5.out ?_ rfl ?_ ?_
          · rw [HF.out]; exact HE5.out
          · rw [HF.out]; exact slot_u64 (by dsimp only; omega)
          · rw [HF.out]; rfl
    · obtain rfl : k = n2 := by omega
      have y0 := HBS1.out.cell 0 _ rfl
      have y1 := HBS1.out.cell 1 _ rfl
      have y2 := HBS1.out.cell 2 _ rfl
      have f0 := HBR1.out.free 0
      have f1 := HBR1.out.free 1
      have f2 := HBR1.out.free 2
      have r0 := HBR1.out.cell 0 _ rfl
      have r1 := HBR1.out.cell 1 _ rfl
      have r2 := HBR1.out.cell 2 _ rfl
      have hfin : rl.match_ ls prev pt l = (ls, prev + k, 0) := by
        unfold rl.match_
        rw [if_pos Hpt.out, HCM.out, Hn2.out, if_neg (by omega)]
      have HF := Lib.hid hfin
      clear hfin
      go_wp2
      refine rmatch_end T V ls prev pt l w (w1.drewN q) _ (.slice A n c) (below_drewN HB1.out _) (HBR1.out.below (below_drewN (Below.refl _ w1) q)) ?_ rfl ?_ ?_
      · rw [HF.out]; exact Hv.out.below (below_drewN HB1.out _)
      · rw [HF.out]; exact slot_u64 (by dsimp only; omega)
      · rw [HF.out]; rfl
theorem rmatch_any (T : Nat) (V : Int) (v lv : Value) (ls l : List rl.Ent) (prev pt : Nat) (w : World) (hv : Ents w v ls) (hv2 : Ents w lv l) (hl : ls.length ≤ 10000) (hl2 : l.length ≤ 10000) (hp : prev < 18446744073709551616) :
    Calls Try.prog 17 #[stV T V v, .int .u64 (prev : Int), .int .u64 (pt : Int), lv] w (MatchPost T V ls prev pt l w) := by
  have hv' := hv
  have hv2' := hv2
  obtain ⟨A, c, rfl, hc, hcm, _⟩ := hv
  obtain ⟨A2, c2, rfl, hc2, hcm2, _⟩ := hv2
  by_cases h : rl.termAt ls prev = (pt, true)
  · have hpn : prev ≤ ls.length := by
      by_cases hlt : ls.length < prev
      · exfalso
        unfold rl.termAt at h
        rw [if_neg (by omega), if_pos hlt] at h
        cases h
      · omega
    exact rmatch_some T V A A2 ls.length c l.length c2 ls l prev pt w rfl rfl hv' hv2' hl hl2 hpn hcm hc hcm2 hc2 h
  · exact rmatch_none T V A ls.length c ls prev pt _ l w rfl hv' hl hp h
end Go.Proofs.Ytgaamknkigdoeaa
