/- The document's From walked. -/
import Derived.Test.YtgaamknkigdoeaaRlFrom
import Derived.Test.YtgaamknkigdoeaaRlRTexts
import Derived.Deep.DeepCutAuto
namespace Go.Proofs.Ytgaamknkigdoeaa
open Go Go.RowKit

theorem rnumber_text (t : List UInt8) (w : World) (h8 : 8 ≤ (crcm.mk t).size) (hs : (crcm.mk t).size ≤ maxLen) :
    Calls Try.prog 33 #[.string (crcm.mk t)] w fun e' w' => e' = .returned (.int .u64 ((rl.num (t.take 8) : Nat) : Int)) ∧ w = w' := rnumber_any (crcm.mk t) w h8 hs
set_option maxHeartbeats 4000000 in
theorem rfrom_none (A : Option Addr) (c : Nat) (w : World) : Calls Try.prog 23 #[.slice A 0 c] w (FromPost [] w) := by
  have bs := Blk.new w [.int .u64 0, .int .i64 0, .slice none 0 0] 38
  have hb := below_alloc w (.cells #[.int .u64 0, .int .i64 0, .slice none 0 0] 38)
  have HB := Lib.hid hb
  have BS := Lib.hid bs
  clear hb bs
  go_enter Try.func23, Try.ntmps23
  go_wp2
  refine bodyPost_ret (results_cell_one rfl _ _ w.heap.size _ _ (0, 0) _ rfl (heap_alloc_new w _) Try.underlying38 rfl rstate_size) rfl ?_
  exact ⟨.slice none 0 0, rfl, ⟨none, 0, rfl, Nat.le_refl _, Nat.zero_le _, fun h => absurd h (by decide)⟩, below_alloc w _⟩

theorem rfrom_bad {ts : List (List UInt8)} {w wr : World} {a b c : Value} {tmps : Array Value} (hb : Below w.heap.size w wr) (hX : Blk wr w.heap.size [a, b, c] 38) (hf : rl.from_ ts = ((0, 0, []), 50))
    (h2 : tmps.getD 2 undef = .pointer (some ⟨w.heap.size, 0, none⟩)) (h3 : tmps.getD 3 undef = .int .i64 50) :
    bodyPost Try.prog Try.f23 (FromPost ts w) Exit.ret { tmps := tmps, defers := [] } (((wr.setCell ⟨w.heap.size, 0, none⟩ (.int .u64 0)).setCell ⟨w.heap.size, 1, none⟩ (.int .i64 0)).setCell ⟨w.heap.size, 2, none⟩ (.slice none 0 0)) := by
  have hR := ((hX.set 0 (.int .u64 0)).set 1 (.int .i64 0)).set 2 (.slice none 0 0)
  refine bodyPost_ret (results_cell_one rfl _ _ w.heap.size _ _ (0, 0) _ h2 hR Try.underlying38 rfl rstate_size) rfl ?_
  rw [h3]
  unfold FromPost
  rw [hf]
  exact ⟨.slice none 0 0, rfl, ⟨none, 0, rfl, Nat.le_refl _, Nat.zero_le _, fun h => absurd h (by decide)⟩, ((hb.setCell (p := ⟨w.heap.size, 0, none⟩) (Nat.le_refl _) _).setCell (p := ⟨w.heap.size, 1, none⟩) (Nat.le_refl _) _).setCell (p := ⟨w.heap.size, 2, none⟩) (Nat.le_refl _) _⟩
set_option maxHeartbeats 4000000 in
theorem rfrom_head (A : Option Addr) (n c : Nat) (h : List UInt8) (r : List (List UInt8)) (w : World) (hs : Strs w (.slice A n c) (h :: r)) (hn : r.length + 1 = n) (hl : n ≤ 10000) (h9 : h.length ≠ 9) :
    Calls Try.prog 23 #[.slice A n c] w (FromPost (h :: r) w) := by
  have bs := Blk.new w [.int .u64 0, .int .i64 0, .slice none 0 0] 38
  have hb := below_alloc w (.cells #[.int .u64 0, .int .i64 0, .slice none 0 0] 38)
  have hn0 : ((n : Int) == 0) = false := by rw [beq_eq_false_iff_ne]; omega
  have hi0 : (0 : Int) < (n : Int) := by omega
  have hfin : rl.from_ (h :: r) = ((0, 0, []), 50) := by
    unfold rl.from_
    simp only
    rw [if_neg (fun e => h9 e.1)]
  have hne : (((crcm.mk h).size : Int) != 9) = true := by rw [bne_iff_ne, crcm.mk_size]; omega
  obtain ⟨ad, rfl, y0⟩ := (hs.below hb).row 0 (by omega)
  rw [show (h :: r).getD 0 [] = h from rfl, add_zero] at y0
  have HF := Lib.hid hfin
  have HB0 := Lib.hid hb
  have BS0 := Lib.hid bs
  clear hfin hb bs hs hn h9
  go_enter Try.func23, Try.ntmps23
  go_wp2
  refine bodyPost_ret (results_cell_one rfl _ _ w.heap.size _ _ (0, 0) _ rfl BS0.out Try.underlying38 rfl rstate_size) rfl ?_
  unfold FromPost
  rw [HF.out]
  exact ⟨.slice none 0 0, rfl, ⟨none, 0, rfl, Nat.le_refl _, Nat.zero_le _, fun h => absurd h (by decide)⟩, HB0.out⟩

set_option maxRecDepth 100000 in
set_option maxHeartbeats 8000000 in
theorem rfrom_some (A : Option Addr) (n c : Nat) (h : List UInt8) (r : List (List UInt8)) (w : World) (hs : Strs w (.slice A n c) (h :: r)) (hn : r.length + 1 = n) (hl : n ≤ 10000) (hall : ∀ t ∈ h :: r, t.length ≤ maxLen) (h9 : h.length = 9) :
    Calls Try.prog 23 #[.slice A n c] w (FromPost (h :: r) w) := by
  obtain ⟨i0, hi, hz0, hz1, hz2⟩ := info_parts info_ent
  have bs := Blk.new w [.int .u64 0, .int .i64 0, .slice none 0 0] 38
  have hb := below_alloc w (.cells #[.int .u64 0, .int .i64 0, .slice none 0 0] 38)
  have hn0 : ((n : Int) == 0) = false := by rw [beq_eq_false_iff_ne]; omega
  have hin : (0 : Int) < (n : Int) := by omega
  have hsz : (crcm.mk h).size = 9 := by rw [crcm.mk_size]; exact h9
  obtain ⟨ad, rfl, y0⟩ := (hs.below hb).row 0 (by omega)
  rw [show (h :: r).getD 0 [] = h from rfl, add_zero] at y0
  have g8 := byte_at (crcm.mk h) 8 (by rw [hsz]; decide)
  have hv8 : rl.vote h = ((h.getD 8 0).toNat : Int) - 1 := rfl
  rw [crcm.mk_toList] at g8
  obtain ⟨b, hbe⟩ : ∃ b : UInt8, h.getD 8 0 = b := ⟨_, rfl⟩
  rw [hbe] at g8 hv8
  have hbt : b.toNat < 256 := b.toNat_lt
  have hvw : IntKind.i64.wrap ((b.toNat : Int) - 1) = (b.toNat : Int) - 1 := by simp [IntKind.wrap, IntKind.bits, IntKind.signed]; omega
  have hbw : IntKind.i64.wrap (b.toNat : Int) = (b.toNat : Int) := by simp [IntKind.wrap, IntKind.bits, IntKind.signed]; omega
  have hin2 : 0 < n := by omega
  have HV8 := Lib.hid hv8
  have H9 := Lib.hid h9
  have HB0 := Lib.hid hb
  have BS0 := Lib.hid bs
  have HS := Lib.hid hs
  have Hn := Lib.hid hn
  have HALL := Lib.hid hall
  have hnr : r.length < n := by omega
  have hsz8 : 8 ≤ (crcm.mk h).size := by omega
  have hszM : (crcm.mk h).size ≤ maxLen := by rw [hsz]; unfold maxLen; omega
  have HS8 := Lib.hid hsz8
  have HSM := Lib.hid hszM
  clear hb bs hs hn hall hv8 hbe h9 hsz8 hszM
  go_enter Try.func23, Try.ntmps23
  go_wp2
  obtain ⟨X, hX⟩ : ∃ X, w.alloc (.cells #[.int .u64 0, .int .i64 0, .slice none 0 0] 38) = X := ⟨_, rfl⟩
  have hb0 := HB0.out
  have bs0 := BS0.out
  have hsX : X.heap.size = w.heap.size + 1 := by rw [← hX]; simp
  rw [hX] at y0 hb0 bs0 ⊢
  have HB0 := Lib.hid hb0
  have BS0 := Lib.hid bs0
  have HSX := Lib.hid hsX
  clear hb0 bs0 hX hsX
  go_cut [4] (fun s4 wx => s4 = .pointer (some ⟨X.heap.size, 0, none⟩) ∧ (X.alloc (.cells #[.int .u64 ((rl.num (h.take 8) : Nat) : Int), .int .i64 ((b.toNat : Int) - 1), .slice none 0 0] 38)).drew = wx)
  case first =>
    go_region_held3 (fun w' => w'.cell? ad = some (.string (crcm.mk h)))
      (first | exact y0 | exact cell_later (below_drewN (below_alloc X _) 1) y0 | exact cell_later (below_alloc X _) y0 | go_keep)
      ((go_at_call 33; refine (rnumber_text h _ HS8.out HSM.out).mono ?_; rintro e w6 ⟨rfl, rfl⟩))
    all_goals
      go_wp2_with fail
      go_meet
      exact ⟨rfl, rfl⟩
  case rest =>
    obtain ⟨rfl, hwx⟩ := hcut
    obtain ⟨S, hS⟩ : ∃ S, X.heap.size = S := ⟨_, rfl⟩
    have hS1 : S = w.heap.size + 1 := by rw [← hS]; exact HSX.out
    have bo := Blk.new X [.int .u64 ((rl.num (h.take 8) : Nat) : Int), .int .i64 ((b.toNat : Int) - 1), .slice none 0 0] 38
    have br := BS0.out.below (below_alloc X (.cells #[.int .u64 ((rl.num (h.take 8) : Nat) : Int), .int .i64 ((b.toNat : Int) - 1), .slice none 0 0] 38))
    have bb : Below w.heap.size w (X.alloc (.cells #[.int .u64 ((rl.num (h.take 8) : Nat) : Int), .int .i64 ((b.toNat : Int) - 1), .slice none 0 0] 38)).drew := below_drewN (HB0.out.alloc HB0.out.size _) 1
    have bo' : Blk (X.alloc (.cells #[.int .u64 ((rl.num (h.take 8) : Nat) : Int), .int .i64 ((b.toNat : Int) - 1), .slice none 0 0] 38)).drew X.heap.size [.int .u64 ((rl.num (h.take 8) : Nat) : Int), .int .i64 ((b.toNat : Int) - 1), .slice none 0 0] 38 := bo
    have br' : Blk (X.alloc (.cells #[.int .u64 ((rl.num (h.take 8) : Nat) : Int), .int .i64 ((b.toNat : Int) - 1), .slice none 0 0] 38)).drew w.heap.size [.int .u64 0, .int .i64 0, .slice none 0 0] 38 := br
    rw [hwx] at bo' br' bb
    rw [hS] at bo' ⊢
    rw [← HV8.out] at bo'
    have BO := Lib.hid bo'
    have BR := Lib.hid br'
    have BB := Lib.hid bb
    have HS1 := Lib.hid hS1
    clear bo br bb bo' br' hwx hS hS1 hvw hbw g8 hsz y0
    go_wp2
    go_loopw [5] (fun i wr => ∃ (k : Nat) (u : Value), k ≤ r.length ∧ i = .int .i64 ((k + 1 : Nat) : Int) ∧ Blk wr w.heap.size [.int .u64 0, .int .i64 0, .slice none 0 0] 38 ∧ Blk wr S [.int .u64 ((rl.num (h.take 8) : Nat) : Int), .int .i64 (rl.vote h), u] 38 ∧
      wr.ownsRow (S + 1) 65 2 u k (entCells ((r.take k).map rl.dec)) ∧ Below w.heap.size w wr ∧ (r.take k).all rl.okText = true) (fun i _ => n - (intOf i).toNat)
    case atStart => exact ⟨0, .slice none 0 0, Nat.zero_le _, rfl, BR.out, BO.out, World.ownsRow_nil _ _ _ _, BB.out, rfl⟩
    case round =>
      obtain ⟨k, u, hk, rfl, hR, hX, hown, hbel, hpa⟩ := hrel
      obtain ⟨Au, cu, hu⟩ := owns_slice hown
      subst hu
      obtain ⟨k1, hk1⟩ : ∃ k1, k + 1 = k1 := ⟨_, rfl⟩
      rw [hk1]
      have hk1l : k1 ≤ n := by have := Hn.out; omega
      have x0 := hX.cell 0 _ rfl
      have x1 := hX.cell 1 _ rfl
      have x2 := hX.cell 2 _ rfl
      have q0 := hX.free 0
      have q1 := hX.free 1
      have q2 := hX.free 2
      have p0 := hR.free 0
      have p1 := hR.free 1
      have p2 := hR.free 2
      have pc0 := hR.cell 0 _ rfl
      have pc1 := hR.cell 1 _ rfl
      have pc2 := hR.cell 2 _ rfl
      have HX := Lib.hid hX
      have HR := Lib.hid hR
      have HO := Lib.hid hown
      have HB := Lib.hid hbel
      have HPA := Lib.hid hpa
      have HK1 := Lib.hid hk1
      clear hX hR hown hbel hpa hk1
      by_cases hlt : k1 < n
      · have hjr : k < r.length := by have := Hn.out; have := HK1.out; omega
        obtain ⟨ad', had, y0⟩ := (HS.out.below HB.out).row k1 hlt
        obtain rfl : ad = ad' := by injection had
        rw [← HK1.out, getD_tail, HK1.out] at y0
        have htm := tmem hjr
        have htl := HALL.out _ (List.mem_cons_of_mem h htm)
        have htt := ttake hjr
        obtain ⟨t, ht⟩ : ∃ t, r.getD k [] = t := ⟨_, rfl⟩
        rw [ht] at y0 htm htl htt
        have hi1 : (k1 : Int) < (n : Int) := by omega
        have hszm : (crcm.mk t).size ≤ 9223372036854775807 := by rw [crcm.mk_size]; unfold maxLen at htl; omega
        have HTM := Lib.hid htm
        have HTT := Lib.hid htt
        clear ht htm htl htt had
        by_cases hok : rl.okText t = true
        · have hb8 : 8 ≤ t.length ∧ t.length ≤ 60008 := by unfold rl.okText at hok; simpa using hok
          have hs1 : ¬ (crcm.mk t).size < 8 := by rw [crcm.mk_size]; omega
          have hs2 : ¬ 60008 < (crcm.mk t).size := by rw [crcm.mk_size]; omega
          have hd : decide (((crcm.mk t).size : Int) < 8) = false := by simp; omega
          have hd2 : decide ((60008 : Int) < ((crcm.mk t).size : Int)) = false := by simp; omega
          have hi8 : (8 : Int) ≤ ((crcm.mk t).size : Int) := by omega
          have hi9 : ((crcm.mk t).size : Int) ≤ 60008 := by omega
          have hcr := cut_rest t
          have HS8 := Lib.hid (show 8 ≤ (crcm.mk t).size by omega)
          have HSM := Lib.hid (show (crcm.mk t).size ≤ maxLen by unfold maxLen; omega)
          have HOK := Lib.hid hok
          have hk5 : k + 1 ≤ 10000 := by omega
          have hBa := below_alloc wr (.cells #[.int .u64 ((rl.num (t.take 8) : Nat) : Int), .string (crcm.mk (t.drop 8))] 65)
          have z2 := (HX.out.below hBa).cell 2 _ rfl
          have y2 := cell_later hBa y0
          have hne : some S ≠ (Value.slice Au k cu).ownBlock := fun e => by have := (HO.out.lt _ e.symm).1; omega
          have hneR : some w.heap.size ≠ (Value.slice Au k cu).ownBlock := fun e => by have := (HO.out.lt _ e.symm).1; have := HS1.out; omega
          have HXA : Hid (Blk (wr.alloc (.cells #[.int .u64 ((rl.num (t.take 8) : Nat) : Int), .string (crcm.mk (t.drop 8))] 65)).drew S [.int .u64 ((rl.num (h.take 8) : Nat) : Int), .int .i64 (rl.vote h), .slice Au k cu] 38) := Lib.hid (HX.out.alloc _)
          have HRA : Hid (Blk (wr.alloc (.cells #[.int .u64 ((rl.num (t.take 8) : Nat) : Int), .string (crcm.mk (t.drop 8))] 65)).drew w.heap.size [.int .u64 0, .int .i64 0, .slice none 0 0] 38) := Lib.hid (HR.out.alloc _)
          clear hok hb8 hBa
          go_wp2
          go_region_law (first | (refine step_append_own rfl (.tmp 49) (.tmp 61) 36 rfl (S + 1) 65 i0 _ 2 24 Try.underlying36 hi hz0 hz1 hz2 rfl (by decide) (.slice Au k cu) k (entCells ((r.take k).map rl.dec)) rfl ?_ ⟨wr.heap.size, 0, none⟩ 1 1 [.int .u64 ((rl.num (t.take 8) : Nat) : Int), .string (crcm.mk (t.drop 8))] rfl rfl ?_ (entCells_one [rl.dec t]) ?_ ?_ ?_ ?_; exact HO.out.alloc _; exact cells_new2 _ _ _ _; unfold maxLen; omega; omega; (have q6 := HX.out.lt; simp; omega); intro v' w3 hown' hgrow'; obtain ⟨A', c', rfl⟩ := owns_slice hown'; have hX3 := HXA.out.grown hgrow' hne; have hR3 := HRA.out.grown hgrow' hneR; have of3 := hX3.free 2; have o23 := hX3.cell 2 _ rfl) | (go_simp; go_at_call 33; refine (rnumber_text t _ HS8.out HSM.out).mono ?_; rintro e w6 ⟨rfl, rfl⟩))
          all_goals
            have hX4 := hX3.set 2 (.slice A' (k + 1) c')
            have hR4 := hR3.other ⟨S, 2, none⟩ (.slice A' (k + 1) c') (show w.heap.size ≠ S by have := HS1.out; omega)
            have hown4 := hown'.kept (set_grown w3 ⟨S, 2, none⟩ (.slice A' (k + 1) c')) (by
              cases ho : (Value.slice A' (k + 1) c').ownBlock with
              | none => exact .inl rfl
              | some g => exact .inr (by have := (hown'.lt g ho).1; simp; omega))
            have hb3 : Below w.heap.size w w3 := (below_drewN ((HB.out.alloc HB.out.size (.cells #[.int .u64 ((rl.num (t.take 8) : Nat) : Int), .string (crcm.mk (t.drop 8))] 65))) 1).grown hgrow' (by have q6 := HX.out.lt; have := HS1.out; simp; omega) (fun g hg => by have := (HO.out.lt g hg).1; have := HS1.out; omega)
            have hb4 := hb3.setCell (p := ⟨S, 2, none⟩) (show w.heap.size ≤ S by have := HS1.out; omega) (.slice A' (k + 1) c')
            have hrow : entCells ((r.take k).map rl.dec) ++ [.int .u64 ((rl.num (t.take 8) : Nat) : Int), .string (crcm.mk (t.drop 8))] = entCells ((r.take (k + 1)).map rl.dec) := by
              rw [HTT.out, List.map_append, entCells_append]; rfl
            rw [hrow] at hown4
            have HX4 := Lib.hid hX4
            have HR4 := Lib.hid hR4
            have HO4 := Lib.hid hown4
            have HB4 := Lib.hid hb4
            clear hX4 hR4 hown4 hb4 hb3 hrow hX3 hR3 of3 o23 hown' hgrow' z2 y2 hne hneR x0 x1 x2 q0 q1 q2 p0 p1 p2 pc0 pc1 pc2 y0 hcr
            simp only [Exit.then, Exit.inBlock]
            go_wp2
            go_roundw
            case rel =>
              refine ⟨k + 1, .slice A' (k + 1) c', hjr, slot_i64 (by have := HK1.out; omega), HR4.out, HX4.out, HO4.out, HB4.out, ?_⟩
              rw [HTT.out, List.all_append, HPA.out, List.all_cons, HOK.out]; rfl
            case measure => simp [intOf]; omega
        · have hno : rl.okText t = false := by rw [Bool.eq_false_iff]; exact hok
          have hfin : rl.from_ (h :: r) = ((0, 0, []), 50) := by
            unfold rl.from_
            simp only
            rw [if_neg]
            intro e
            rw [List.all_eq_true] at e
            exact hok (e.2 t HTM.out)
          have HF := Lib.hid hfin
          clear hfin
          by_cases hshort : t.length < 8
          · have hs1 : (crcm.mk t).size < 8 := by rw [crcm.mk_size]; omega
            have hd : decide (((crcm.mk t).size : Int) < 8) = true := by simp; omega
            clear hok hno
            go_wp2
            exact rfrom_bad HB.out HR.out HF.out rfl rfl
          · have hlong : 60008 < t.length := by
              unfold rl.okText at hno
              simp only [Bool.and_eq_false_iff, decide_eq_false_iff_not] at hno
              omega
            have hs1 : ¬ (crcm.mk t).size < 8 := by rw [crcm.mk_size]; omega
            have hs2 : 60008 < (crcm.mk t).size := by rw [crcm.mk_size]; omega
            have hd : decide (((crcm.mk t).size : Int) < 8) = false := by simp; omega
            have hd2 : decide ((60008 : Int) < ((crcm.mk t).size : Int)) = true := by simp; omega
            clear hok hno
            go_wp2
            exact rfrom_bad HB.out HR.out HF.out rfl rfl
      · have hkr : k = r.length := by have := Hn.out; have := HK1.out; omega
        have hpa := HPA.out
        have ho := HO.out
        have hx := HX.out
        have hr := HR.out
        rw [hkr, List.take_of_length_le (Nat.le_refl _)] at hpa
        have hl2 : (r.map rl.dec).length = k := by rw [List.length_map, hkr]
        have hE : Ents wr (.slice Au k cu) (r.map rl.dec) := by
          rw [hkr, List.take_of_length_le (Nat.le_refl _), ← hkr, ← hl2] at ho
          rw [← hl2]
          exact ents_of_owns ho
        have hfin : rl.from_ (h :: r) = ((rl.num (h.take 8), rl.vote h, r.map rl.dec), 0) := by
          unfold rl.from_
          simp only
          rw [if_pos ⟨H9.out, hpa⟩]
        have HF := Lib.hid hfin
        have HX2 := Lib.hid (((hr.set 0 (.int .u64 ((rl.num (h.take 8) : Nat) : Int))).set 1 (.int .i64 (rl.vote h))).set 2 (.slice Au k cu))
        have hE3 := ((hE.far hr (by intro x hx s e; subst e; simp at hx) 0 (.int .u64 ((rl.num (h.take 8) : Nat) : Int))).far (hr.set 0 (.int .u64 ((rl.num (h.take 8) : Nat) : Int))) (by intro x hx s e; subst e; simp at hx) 1 (.int .i64 (rl.vote h))).far ((hr.set 0 (.int .u64 ((rl.num (h.take 8) : Nat) : Int))).set 1 (.int .i64 (rl.vote h))) (by intro x hx s e; subst e; simp at hx) 2 (.slice Au k cu)
        have HE := Lib.hid hE3
        have HB3 := Lib.hid (((HB.out.setCell (p := ⟨w.heap.size, 0, none⟩) (Nat.le_refl _) (.int .u64 ((rl.num (h.take 8) : Nat) : Int))).setCell (p := ⟨w.heap.size, 1, none⟩) (Nat.le_refl _) (.int .i64 (rl.vote h))).setCell (p := ⟨w.heap.size, 2, none⟩) (Nat.le_refl _) (.slice Au k cu))
        clear ho hx hr hpa hfin hE hE3 hl2 hkr
        go_wp2
        refine bodyPost_ret (results_cell_one rfl _ _ w.heap.size _ _ (0, 0) _ rfl HX2.out Try.underlying38 rfl rstate_size) rfl ?_
        unfold FromPost
        rw [HF.out]
        exact ⟨_, rfl, HE.out, HB3.out⟩
theorem rfrom_any (v : Value) (ts : List (List UInt8)) (w : World) (hs : Strs w v ts) (hl : ts.length ≤ 10000) (hall : ∀ t ∈ ts, t.length ≤ maxLen) :
    Calls Try.prog 23 #[v] w (FromPost ts w) := by
  have hs' := hs
  obtain ⟨A, c, rfl, _⟩ := hs'
  cases ts with
  | nil => exact rfrom_none A c w
  | cons h r =>
    by_cases h9 : h.length = 9
    · exact rfrom_some A _ c h r w hs rfl hl hall h9
    · exact rfrom_head A _ c h r w hs rfl hl h9
end Go.Proofs.Ytgaamknkigdoeaa
