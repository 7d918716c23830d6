/- KsFrom, KsOpen: one behind the other. -/
import Derived.Deep.DeepCutAuto
import Derived.Test.YtmcibggjolckoaaGreatDoorG24
namespace Go.Proofs.YtmcibggjolckoaaGreatDoor
open Go Go.RowKit
set_option maxRecDepth 100000

namespace rl
def dec (t : List UInt8) : Ent := (num (t.take 8), t.drop 8)
def okText (t : List UInt8) : Bool := decide (8 ≤ t.length) && decide (t.length ≤ 60008)
def vote (h : List UInt8) : Int := ((h.getD 8 0).toNat : Int) - 1
def from_ (ts : List (List UInt8)) : (Nat × Int × List Ent) × Nat :=
  match ts with
  | [] => ((0, -1, []), 0)
  | h :: r => if h.length = 9 ∧ r.all okText = true then ((num (h.take 8), vote h, r.map dec), 0) else ((0, 0, []), 50)
theorem dec_enc (t : Ent) (h : t.1 < 18446744073709551616) : dec (enc t) = t := by
  unfold dec enc
  rw [List.take_append_of_le_length (by rw [le8_len]; omega), List.take_of_length_le (by rw [le8_len]; omega), List.drop_append_of_le_length (by rw [le8_len]; omega), List.drop_of_length_le (by rw [le8_len]; omega), num_le8 _ h]
  rfl
theorem from_texts (T : Nat) (V : Int) (ls : List Ent) (hT : T < 18446744073709551616) (h1 : -1 ≤ V) (h2 : V ≤ 254) (ha : ∀ t ∈ ls, t.1 < 18446744073709551616 ∧ t.2.length ≤ 60000) : from_ (texts T V ls) = ((T, V, ls), 0) := by
  unfold from_ texts
  have hh : (head T V).length = 9 := rfl
  have hall : (ls.map enc).all okText = true := by
    rw [List.all_map, List.all_eq_true]
    intro t ht
    have := (ha t ht).2
    simp only [Function.comp, okText, enc, Bool.and_eq_true, decide_eq_true_eq, List.length_append, le8_len]
    omega
  simp only
  rw [if_pos ⟨hh, hall⟩]
  have e1 : num ((head T V).take 8) = T := num_le8 T hT
  have e2 : vote (head T V) = V := by
    unfold vote
    rw [show (head T V).getD 8 0 = UInt8.ofNat (V + 1).toNat from rfl, UInt8.toNat_ofNat', Nat.mod_eq_of_lt (by omega)]
    omega
  have e3 : (ls.map enc).map dec = ls := by
    rw [List.map_map]
    conv => rhs; rw [← List.map_id ls]
    apply List.map_congr_left
    intro t ht
    exact dec_enc t (ha t ht).1
  rw [e1, e2, e3]
end rl
theorem number_eight (l : List UInt8) (w : World) (h : l.length = 8) :
    Calls Tryz.prog 76 #[.string (crcm.mk l)] w fun e' w' => e' = .returned (.int .u64 (rl.num l : Nat)) ∧ Below w.heap.size w w' := by
  obtain ⟨a, b, c, d, e, f, g, i, rfl⟩ := rl.eight l h
  exact number_any a b c d e f g i w
theorem cut_head (t : List UInt8) : (crcm.mk t).extract 0 8 = crcm.mk (t.take 8) := by
  rw [← crcm.mk_of ((crcm.mk t).extract 0 8), Lib.extract_data, List.drop_zero]
  rfl
theorem cut_rest (t : List UInt8) : (crcm.mk t).extract 8 (crcm.mk t).size = crcm.mk (t.drop 8) := by
  rw [← crcm.mk_of ((crcm.mk t).extract 8 (crcm.mk t).size), Lib.extract_data, List.take_of_length_le]
  · rfl
  · rw [List.length_drop, crcm.mk_toList, crcm.mk_size]; omega
def FromPost (ts : List (List UInt8)) (w : World) (e : Ending) (w' : World) : Prop :=
  ∃ u, e = .returned (.tuple #[stV (rl.from_ ts).1.1 (rl.from_ ts).1.2.1 u, .int .i64 ((rl.from_ ts).2 : Nat)]) ∧ EntsB 0 w' u (rl.from_ ts).1.2.2 ∧ Below w.heap.size w w'
set_option maxHeartbeats 4000000 in
theorem from_none (A : Option Addr) (c : Nat) (w : World) : Calls Tryz.prog 55 #[.slice A 0 c] w (FromPost [] w) := by
  have bs := Blk.new w [.int .u64 0, .int .i64 0, .slice none 0 0] 46
  have hb := below_alloc w (.cells #[.int .u64 0, .int .i64 0, .slice none 0 0] 46)
  have HB := Lib.hid hb
  have BS := Lib.hid bs
  clear hb bs
  go_enter Tryz.func55, Tryz.ntmps55
  go_wp2
  refine bodyPost_ret (results_cell_one rfl _ _ w.heap.size _ _ (0, 0) _ rfl (heap_alloc_new w _) Tryz.underlying46 rfl state_size) rfl ?_
  exact ⟨.slice none 0 0, rfl, EntsB.nil 0 _, below_alloc w _⟩

theorem Strs.row {w : World} {A : Option Addr} {n c : Nat} {ls : List (List UInt8)} (h : Strs w (.slice A n c) ls) (k : Nat) (hk : k < n) : ∃ ad, A = some ad ∧ w.cell? (ad.add k) = some (.string (crcm.mk (ls.getD k []))) := by
  obtain ⟨A', c', e, h0⟩ := h
  obtain ⟨rfl, rfl, rfl⟩ : A = A' ∧ n = ls.length ∧ c = c' := by injection e with e1 e2 e3; exact ⟨e1, e2, e3⟩
  exact h0 k hk
theorem getD_tail (h : List UInt8) (r : List (List UInt8)) (k : Nat) : (h :: r).getD (k + 1) [] = r.getD k [] := by
  rw [List.getD_eq_getElem?_getD, List.getD_eq_getElem?_getD, List.getElem?_cons_succ]
theorem tmem {ls : List (List UInt8)} {k : Nat} (h : k < ls.length) : ls.getD k [] ∈ ls := by
  rw [List.getD_eq_getElem?_getD, List.getElem?_eq_getElem h]; exact List.getElem_mem _
theorem ttake {ls : List (List UInt8)} {k : Nat} (h : k < ls.length) : ls.take (k + 1) = ls.take k ++ [ls.getD k []] := by
  rw [List.take_add_one, List.getD_eq_getElem?_getD, List.getElem?_eq_getElem h]; rfl

theorem from_bad {ts : List (List UInt8)} {w wr : World} {a b c : Value} {tmps : Array Value} (hb : Below w.heap.size w wr) (hX : Blk wr w.heap.size [a, b, c] 46) (hf : rl.from_ ts = ((0, 0, []), 50))
    (h2 : tmps.getD 2 undef = .pointer (some ⟨w.heap.size, 0, none⟩)) (h3 : tmps.getD 3 undef = .int .i64 50) :
    bodyPost Tryz.prog Tryz.f55 (FromPost ts w) Exit.ret { tmps := tmps, defers := [] } (((wr.setCell ⟨w.heap.size, 0, none⟩ (.int .u64 0)).setCell ⟨w.heap.size, 1, none⟩ (.int .i64 0)).setCell ⟨w.heap.size, 2, none⟩ (.slice none 0 0)) := by
  have hR := ((hX.set 0 (.int .u64 0)).set 1 (.int .i64 0)).set 2 (.slice none 0 0)
  refine bodyPost_ret (results_cell_one rfl _ _ w.heap.size _ _ (0, 0) _ h2 hR Tryz.underlying46 rfl state_size) rfl ?_
  rw [h3]
  unfold FromPost
  rw [hf]
  exact ⟨.slice none 0 0, rfl, EntsB.nil 0 _, ((hb.setCell (p := ⟨w.heap.size, 0, none⟩) (Nat.le_refl _) _).setCell (p := ⟨w.heap.size, 1, none⟩) (Nat.le_refl _) _).setCell (p := ⟨w.heap.size, 2, none⟩) (Nat.le_refl _) _⟩
set_option maxRecDepth 100000 in
set_option maxHeartbeats 8000000 in
theorem from_some (A : Option Addr) (n c : Nat) (h : List UInt8) (r : List (List UInt8)) (w : World) (hs : Strs w (.slice A n c) (h :: r)) (hn : r.length + 1 = n) (hl : n ≤ 10000) (hall : ∀ t ∈ h :: r, t.length ≤ maxLen) :
    Calls Tryz.prog 55 #[.slice A n c] w (FromPost (h :: r) w) := by
  obtain ⟨i0, hi, hz0, hz1, hz2⟩ := info_parts info_lent
  have bs := Blk.new w [.int .u64 0, .int .i64 0, .slice none 0 0] 46
  have hb := below_alloc w (.cells #[.int .u64 0, .int .i64 0, .slice none 0 0] 46)
  have hn0 : ((n : Int) == 0) = false := by rw [beq_eq_false_iff_ne]; omega
  have HB0 := Lib.hid hb
  have BS0 := Lib.hid bs
  have HS := Lib.hid hs
  have Hn := Lib.hid hn
  have HALL := Lib.hid hall
  have hnr : r.length < n := by omega
  clear hb bs hs hn hall
  go_enter Tryz.func55, Tryz.ntmps55
  go_wp2
  go_loopw [12] (fun i wr => ∃ (k : Nat) (T' : Nat) (V' : Int) (u : Value), k ≤ n ∧ i = .int .i64 k ∧ Blk wr w.heap.size [.int .u64 (T' : Int), .int .i64 V', u] 46 ∧ wr.ownsRow (w.heap.size + 1) 35 2 u (k - 1) (entCells ((r.take (k - 1)).map rl.dec)) ∧ Below w.heap.size w wr ∧
    (0 < k → h.length = 9 ∧ T' = rl.num (h.take 8) ∧ V' = rl.vote h ∧ (r.take (k - 1)).all rl.okText = true) ∧ (k = 0 → T' = 0 ∧ V' = 0)) (fun i _ => n - (intOf i).toNat)
  case atStart => exact ⟨0, 0, 0, .slice none 0 0, Nat.zero_le _, rfl, BS0.out, World.ownsRow_nil _ _ _ _, HB0.out, fun hk => absurd hk (by decide), fun _ => ⟨rfl, rfl⟩⟩
  case round =>
    obtain ⟨k, T', V', u, hk, rfl, hX, hown, hbel, hpos, hzero⟩ := hrel
    obtain ⟨Au, cu, hu⟩ := owns_slice hown
    subst hu
    have x0 := hX.cell 0 _ rfl
    have x1 := hX.cell 1 _ rfl
    have x2 := hX.cell 2 _ rfl
    have q0 := hX.free 0
    have q1 := hX.free 1
    have q2 := hX.free 2
    have HX := Lib.hid hX
    have HO := Lib.hid hown
    have HB := Lib.hid hbel
    have HP := Lib.hid hpos
    have HZ := Lib.hid hzero
    clear hX hown hbel hpos hzero
    by_cases hlt : k < n
    · obtain ⟨ad, rfl, y0⟩ := (HS.out.below HB.out).row k hlt
      have hi1 : (k : Int) < (n : Int) := by omega
      by_cases hk0 : k = 0
      · subst hk0
        rw [show (h :: r).getD 0 [] = h from rfl, add_zero] at y0
        by_cases h9 : h.length = 9
        · have hsz : (crcm.mk h).size = 9 := by rw [crcm.mk_size]; exact h9
          have hch := cut_head h
          have g8 := byte_at (crcm.mk h) 8 (by rw [hsz]; decide)
          have hv8 : rl.vote h = ((h.getD 8 0).toNat : Int) - 1 := rfl
          rw [crcm.mk_toList] at g8
          obtain ⟨b, hb⟩ : ∃ b : UInt8, h.getD 8 0 = b := ⟨_, rfl⟩
          rw [hb] at g8 hv8
          have hbt : b.toNat < 256 := b.toNat_lt
          have ht8 : (h.take 8).length = 8 := by rw [List.length_take]; omega
          have HV8 := Lib.hid hv8
          have HT8 := Lib.hid ht8
          have H9 := Lib.hid h9
          clear hv8 hb ht8 h9
          go_wp2
          go_region_with (go_at_call 76; refine (number_eight (h.take 8) _ HT8.out).mono ?_; rintro e w6 ⟨rfl, hb6⟩; have hX6 := Blk.below (w := wr.drew) HX.out hb6; have z0 := hX6.cell 0 _ rfl; have z1 := hX6.cell 1 _ rfl; have p0 := hX6.free 0; have p1 := hX6.free 1)
          all_goals
            have hX7 := (hX6.set 0 (.int .u64 ((rl.num (h.take 8) : Nat) : Int))).set 1 (.int .i64 ((b.toNat : Int) - 1))
            have hB6 : Below w.heap.size w w6 := HB.out.trans ((below_drewN (Below.refl _ wr) 1).trans hb6 |>.mono HB.out.size)
            have hB7 : Below w.heap.size w ((w6.setCell ⟨w.heap.size, 0, none⟩ (.int .u64 ((rl.num (h.take 8) : Nat) : Int))).setCell ⟨w.heap.size, 1, none⟩ (.int .i64 ((b.toNat : Int) - 1))) := (hB6.setCell (p := ⟨w.heap.size, 0, none⟩) (Nat.le_refl _) _).setCell (p := ⟨w.heap.size, 1, none⟩) (Nat.le_refl _) _
            have hO7 : ((w6.setCell ⟨w.heap.size, 0, none⟩ (.int .u64 ((rl.num (h.take 8) : Nat) : Int))).setCell ⟨w.heap.size, 1, none⟩ (.int .i64 ((b.toNat : Int) - 1))).ownsRow (w.heap.size + 1) 35 2 (.slice Au (0 - 1) cu) (0 - 1) (entCells ((r.take (0 - 1)).map rl.dec)) := by
              have h1 := owns_below (a := wr.drew) HO.out hb6
              have hfar : ∀ {X : World} (hh : X.ownsRow (w.heap.size + 1) 35 2 (.slice Au (0 - 1) cu) (0 - 1) (entCells ((r.take (0 - 1)).map rl.dec))) (j : Nat) (x : Value), (X.setCell ⟨w.heap.size, j, none⟩ x).ownsRow (w.heap.size + 1) 35 2 (.slice Au (0 - 1) cu) (0 - 1) (entCells ((r.take (0 - 1)).map rl.dec)) := fun hh j x =>
                hh.kept (set_grown _ _ _) (by
                  cases ho : (Value.slice Au (0 - 1) cu).ownBlock with
                  | none => exact .inl rfl
                  | some g => exact .inr (by have := (hh.lt g ho).1; simp; omega))
              exact hfar (hfar h1 0 _) 1 _
            have HX7 := Lib.hid hX7
            have HB7 := Lib.hid hB7
            have HO7 := Lib.hid hO7
            clear hX7 hB7 hO7 hB6 hb6 hX6 z0 z1 p0 p1
            simp only [Exit.then, Exit.inBlock]
            go_wp2
            go_roundw
            case rel => exact ⟨1, _, _, _, by omega, rfl, HX7.out, HO7.out, HB7.out, fun _ => ⟨H9.out, rfl, HV8.out.symm, rfl⟩, fun hh => absurd hh (by decide)⟩
            case measure => simp [intOf]; omega
        · have hsz : ¬ (crcm.mk h).size = 9 := by rw [crcm.mk_size]; exact h9
          have hsz2 : (((crcm.mk h).size : Int) == 9) = false := by rw [beq_eq_false_iff_ne]; omega
          have hfin : rl.from_ (h :: r) = ((0, 0, []), 50) := by
            unfold rl.from_
            simp only
            rw [if_neg (fun e => h9 e.1)]
          have HF := Lib.hid hfin
          clear hfin
          go_wp2
          refine from_bad HB.out HX.out HF.out rfl rfl
      · obtain ⟨j, hj⟩ : ∃ j, k = j + 1 := ⟨k - 1, by omega⟩
        have ho := HO.out
        have hx := HX.out
        have hp := HP.out (by omega)
        rw [show k - 1 = j from by omega] at ho hx hp x2
        have hjn : j + 1 < n := by omega
        rw [hj] at y0
        obtain ⟨p9, pT, pV, pall⟩ := hp
        have hjr : j < r.length := by have := Hn.out; omega
        rw [getD_tail] at y0
        have htm := tmem hjr
        have htl := HALL.out _ (List.mem_cons_of_mem h htm)
        have htt := ttake hjr
        obtain ⟨t, ht⟩ : ∃ t, r.getD j [] = t := ⟨_, rfl⟩
        rw [ht] at y0 htm htl htt
        rw [← hj] at y0
        have hk1 : ((k : Int) == 0) = false := by rw [beq_eq_false_iff_ne]; omega
        have hk2 : (0 : Int) < (k : Int) := by omega
        have HJ := Lib.hid hj
        have hszm : (crcm.mk t).size ≤ 9223372036854775807 := by rw [crcm.mk_size]; unfold maxLen at htl; omega
        have HO2 := Lib.hid ho
        have HX2 := Lib.hid hx
        have HP9 := Lib.hid p9
        have HPT := Lib.hid pT
        have HPV := Lib.hid pV
        have HPA := Lib.hid pall
        have HTM := Lib.hid htm
        have HTT := Lib.hid htt
        clear ho hx p9 pT pV pall ht htm htl htt HO HX HP hk0 hj
        by_cases hok : rl.okText t = true
        · have hb8 : 8 ≤ t.length ∧ t.length ≤ 60008 := by unfold rl.okText at hok; simpa using hok
          have hs1 : 8 ≤ (crcm.mk t).size := by rw [crcm.mk_size]; exact hb8.1
          have hs2 : (crcm.mk t).size ≤ 60008 := by rw [crcm.mk_size]; exact hb8.2
          have hi8 : (8 : Int) ≤ ((crcm.mk t).size : Int) := by omega
          have hi9 : ((crcm.mk t).size : Int) ≤ 60008 := by omega
          have hch := cut_head t
          have hcr := cut_rest t
          have ht8 : (t.take 8).length = 8 := by rw [List.length_take]; omega
          have hdec : entCells [rl.dec t] = [.int .u64 ((rl.num (t.take 8) : Nat) : Int), .string (crcm.mk (t.drop 8))] := rfl
          have HT8 := Lib.hid ht8
          have HOK := Lib.hid hok
          have HDC := Lib.hid hdec
          have hj5 : j + 1 ≤ 10000 := by omega
          clear ht8 hok hdec hb8
          go_wp2
          have hW9 : Below wr.heap.size wr wr.drew := below_drewN (Below.refl _ wr) 1
          go_region_law (first | (refine step_append_own rfl (.tmp 49) (.tmp 56) 32 rfl (w.heap.size + 1) 35 i0 _ 2 24 Tryz.underlying32 hi hz0 hz1 hz2 rfl (by decide) (.slice Au j cu) j _ rfl ((owns_below HO2.out hW9).alloc _) ⟨w6.heap.size, 0, none⟩ 1 1 [.int .u64 ((rl.num (t.take 8) : Nat) : Int), .string (crcm.mk (t.drop 8))] rfl rfl (cells_new2 _ _ _ _) (entCells_one [rl.dec t]) ?_ ?_ ?_ ?_; unfold maxLen; omega; omega; (have q5 := hW9.size; have q6 := HX2.out.lt; simp; omega); intro v' w3 hown' hgrow'; obtain ⟨A', c', rfl⟩ := owns_slice hown'; have hne : some w.heap.size ≠ (Value.slice Au j cu).ownBlock := (fun e => by have := (HO2.out.lt _ e.symm).1; omega); have hX3 := ((HX2.out.below hW9).alloc (.cells #[.int .u64 ((rl.num (t.take 8) : Nat) : Int), .string (crcm.mk (t.drop 8))] 35)).grown hgrow' hne; have of3 := hX3.free 2; have o23 := hX3.cell 2 _ rfl) | (go_simp; go_at_call 76; refine (number_eight (t.take 8) _ HT8.out).mono ?_; rintro e w6 ⟨rfl, hb6⟩; have hW9 := hW9.trans (hb6.mono hW9.size); have z2 := (HX2.out.below hW9).cell 2 _ rfl; have z3 := ((HX2.out.below hW9).alloc (.cells #[.int .u64 ((rl.num (t.take 8) : Nat) : Int), .string (crcm.mk (t.drop 8))] 35)).cell 2 _ rfl))
          all_goals
            have hX4 := hX3.set 2 (.slice A' (j + 1) c')
            have hown4 := hown'.kept (set_grown w3 ⟨w.heap.size, 2, none⟩ (.slice A' (j + 1) c')) (by
              cases ho : (Value.slice A' (j + 1) c').ownBlock with
              | none => exact .inl rfl
              | some g => exact .inr (by have := (hown'.lt g ho).1; simp; omega))
            have hb3 : Below w.heap.size w w3 := ((HB.out.trans (hW9.mono HB.out.size)).alloc (by have q5 := hW9.size; have q6 := HX2.out.lt; omega) _).grown hgrow' (by have q5 := hW9.size; have q6 := HX2.out.lt; simp; omega) (fun g hg => by have := (HO2.out.lt g hg).1; omega)
            have hb4 := hb3.setCell (p := ⟨w.heap.size, 2, none⟩) (Nat.le_refl _) (.slice A' (j + 1) c')
            have hrow : entCells ((r.take j).map rl.dec) ++ [.int .u64 ((rl.num (t.take 8) : Nat) : Int), .string (crcm.mk (t.drop 8))] = entCells ((r.take (j + 1)).map rl.dec) := by
              rw [HTT.out, List.map_append, entCells_append]; rfl
            rw [hrow] at hown4
            have HX4 := Lib.hid hX4
            have HO4 := Lib.hid hown4
            have HB4 := Lib.hid hb4
            clear hX4 hown4 hb4 hb3 hrow hX3 of3 o23 hown' hgrow' z2 z3 hW9 hb6 hne x0 x1 x2 q0 q1 q2 y0 hch hcr
            simp only [Exit.then, Exit.inBlock]
            go_wp2
            go_roundw
            case rel =>
              refine ⟨k + 1, T', V', .slice A' (j + 1) c', by omega, by go_num, HX4.out, ?_, HB4.out, fun _ => ⟨HP9.out, HPT.out, HPV.out, ?_⟩, fun hh => absurd hh (by omega)⟩
              · rw [show k + 1 - 1 = j + 1 from by have := HJ.out; omega]; exact HO4.out
              · rw [show k + 1 - 1 = j + 1 from by have := HJ.out; omega, HTT.out, List.all_append, HPA.out, List.all_cons, HOK.out]; rfl
            case measure => simp [intOf]; omega
        · have hno : rl.okText t = false := by rw [Bool.eq_false_iff]; exact hok
          have hfin : rl.from_ (h :: r) = ((0, 0, []), 50) := by
            unfold rl.from_
            simp only
            rw [if_neg]
            intro e
            rw [List.all_eq_true] at e
            exact hok (e.2 t HTM.out)
          have HF := Lib.hid hfin
          clear hfin
          by_cases hshort : t.length < 8
          · have hs1 : ¬ 8 ≤ (crcm.mk t).size := by rw [crcm.mk_size]; omega
            have hd : decide ((8 : Int) ≤ ((crcm.mk t).size : Int)) = false := by simp; omega
            clear hok hno
            go_wp2
            exact from_bad HB.out HX2.out HF.out rfl rfl
          · have hlong : 60008 < t.length := by
              unfold rl.okText at hno
              simp only [Bool.and_eq_false_iff, decide_eq_false_iff_not] at hno
              omega
            have hs1 : 8 ≤ (crcm.mk t).size := by rw [crcm.mk_size]; omega
            have hs2 : 60008 < (crcm.mk t).size := by rw [crcm.mk_size]; omega
            have hd : decide ((8 : Int) ≤ ((crcm.mk t).size : Int)) = true := by simp; omega
            have hd2 : decide (((crcm.mk t).size : Int) ≤ 60008) = false := by simp; omega
            clear hok hno
            go_wp2
            exact from_bad HB.out HX2.out HF.out rfl rfl
    · obtain rfl : k = n := by omega
      have hp := HP.out (by omega)
      have ho := HO.out
      have hx := HX.out
      rw [show k - 1 = r.length from by have := Hn.out; omega] at ho hx hp x2
      obtain ⟨p9, pT, pV, pall⟩ := hp
      rw [List.take_of_length_le (Nat.le_refl _)] at ho pall
      have hfin : rl.from_ (h :: r) = ((T', V', r.map rl.dec), 0) := by
        unfold rl.from_
        simp only
        rw [if_pos ⟨p9, pall⟩, pT, pV]
      have HF := Lib.hid hfin
      have HX2 := Lib.hid (((hx.set 0 (.int .u64 (T' : Int))).set 1 (.int .i64 V')).set 2 (.slice Au r.length cu))
      have hE : EntsB 0 wr (.slice Au r.length cu) (r.map rl.dec) := by
        rw [show r.length = (r.map rl.dec).length from by simp] at ho ⊢
        exact EntsB.of_owns ho
      have hE3 := ((hE.far (j := 0) (x := .int .u64 (T' : Int)) (Nat.zero_le _) hx (by decide)).far (j := 1) (x := .int .i64 V') (Nat.zero_le _) (hx.set 0 (.int .u64 (T' : Int))) (by decide)).far (j := 2) (x := .slice Au r.length cu) (Nat.zero_le _) ((hx.set 0 (.int .u64 (T' : Int))).set 1 (.int .i64 V')) (by decide)
      have HE := Lib.hid hE3
      have HB3 := Lib.hid (((HB.out.setCell (p := ⟨w.heap.size, 0, none⟩) (Nat.le_refl _) (.int .u64 (T' : Int))).setCell (p := ⟨w.heap.size, 1, none⟩) (Nat.le_refl _) (.int .i64 V')).setCell (p := ⟨w.heap.size, 2, none⟩) (Nat.le_refl _) (.slice Au r.length cu))
      clear ho hx p9 pT pV pall hfin hE hE3
      go_wp2
      refine bodyPost_ret (results_cell_one rfl _ _ w.heap.size _ _ (0, 0) _ rfl HX2.out Tryz.underlying46 rfl state_size) rfl ?_
      unfold FromPost
      rw [HF.out]
      exact ⟨_, rfl, HE.out, HB3.out⟩
theorem from_any (v : Value) (ts : List (List UInt8)) (w : World) (hs : Strs w v ts) (hl : ts.length ≤ 10000) (hall : ∀ t ∈ ts, t.length ≤ maxLen) :
    Calls Tryz.prog 55 #[v] w (FromPost ts w) := by
  have hs' := hs
  obtain ⟨A, c, rfl, _⟩ := hs'
  cases ts with
  | nil => exact from_none A c w
  | cons h r => exact from_some A _ c h r w hs rfl hl hall
end Go.Proofs.YtmcibggjolckoaaGreatDoor
namespace Go.Proofs.YtmcibggjolckoaaGreatDoor
open Go Go.RowKit
set_option maxRecDepth 100000

theorem sv_strs {w : World} {v : Value} {ls : List (List UInt8)} (h : Strs w v ls) : Strs w v ls := h
theorem strs_sv {w : World} {v : Value} {ls : List (List UInt8)} (h : Strs w v ls) : Strs w v ls := h
def RAFT : vd.Name := [82, 65, 70, 84]
theorem RAFT_ok : wl.openE RAFT = true := by decide
/-- a block in which no entry begins -/
def NoEnt (w : World) (x : Nat) : Prop := ∀ j n s, ¬ (w.cell? ⟨x, j, none⟩ = some (.int .u64 n) ∧ w.cell? ⟨x, j + 1, none⟩ = some (.string s))
theorem noent_of {w : World} {x : Nat} {vs : List Value} {t : TypeId} (h : Vb w x vs t) (hv : ∀ j n s, ¬ (vs[j]? = some (.int .u64 n) ∧ vs[j + 1]? = some (.string s))) : NoEnt w x := by
  intro j n s
  rw [cell_of_row w x j _ _ (0, 0) h, cell_of_row w x (j + 1) _ _ (0, 0) h]
  simpa using hv j n s
theorem noent_disk {w : World} {p b : Nat} {d : vd.Disk} (h : Dk w p b d) : NoEnt w p ∧ NoEnt w b := by
  refine ⟨noent_of h.blk ?_, ?_⟩
  · rintro j n s ⟨h1, _⟩
    match j, h1 with
    | 0, h1 => simp [diskV] at h1
    | 1, h1 => simp [diskV] at h1
    | 2, h1 => simp [diskV] at h1
    | 3, h1 => simp [diskV] at h1
    | 4, h1 => simp [diskV] at h1
    | 5, h1 => simp [diskV] at h1
    | k + 6, h1 => simp [diskV] at h1
  · rintro j n s ⟨h1, _⟩
    obtain ⟨es, c, hb, _⟩ := h.map
    simp [World.cell?, hb] at h1
theorem noent_log {w : World} {g p : Nat} {l : wl.L} (h : Lg w g p l) : NoEnt w g := by
  refine noent_of h ?_
  rintro j n s ⟨h1, _⟩
  match j, h1 with
  | 0, h1 => simp [lgV, dptr] at h1
  | 1, h1 => simp [lgV, keyV] at h1
  | 2, h1 => simp [lgV] at h1
  | 3, h1 => simp [lgV] at h1
  | k + 4, h1 => simp [lgV] at h1
theorem ents_keep {S : List Nat} {w w' : World} {u : Value} {ls : List rl.Ent} (h : Ents w u ls) (hA : Apart S w w') (hS : ∀ x ∈ S, NoEnt w x) : Ents w' u ls := by
  obtain ⟨A, c, e, hl, hm, h0⟩ := h
  refine ⟨A, c, e, hl, hm, fun hn => ?_⟩
  obtain ⟨b, o, e2, hc⟩ := h0 hn
  refine ⟨b, o, e2, fun k hk => ?_⟩
  obtain ⟨c0, c1⟩ := hc k hk
  have hlt : b < w.heap.size := World.block_lt_of_cell? w ⟨b, _, none⟩ c0
  have hno : b ∉ S := fun hx => hS b hx _ _ _ ⟨c0, c1⟩
  have hb := hA.block b hlt hno
  have k2 : ∀ j, w'.cell? ⟨b, j, none⟩ = w.cell? ⟨b, j, none⟩ := fun j => by unfold World.cell?; rw [hb]
  exact ⟨(k2 _).trans c0, (k2 _).trans c1⟩
theorem EntsB.apart {base : Nat} {S : List Nat} {w w' : World} {v : Value} {ls : List rl.Ent} (h : EntsB base w v ls) (hA : Apart S w w') (hS : ∀ x ∈ S, ∀ cur, w.heap[x]? ≠ some (.cells cur 35 (0, 0))) : EntsB base w' v ls := by
  obtain ⟨⟨A, c, rfl, h1, h2, h3⟩, h4⟩ := h
  have hsame : ∀ b o n c', (Value.slice A ls.length c) = .slice (some ⟨b, o, none⟩) n c' → 0 < ls.length → w'.heap[b]? = w.heap[b]? := by
    intro b o n c' e h0
    obtain ⟨hlt, hh⟩ := h4 b o n c' e h0
    refine hA.block b hlt (fun hx => ?_)
    rcases hh with h5 | ⟨cur, h5⟩
    · omega
    · exact hS b hx cur h5
  refine ⟨⟨A, c, rfl, h1, h2, fun h0 => ?_⟩, fun b o n c' e h0 => ?_⟩
  · obtain ⟨b, o, rfl, hA⟩ := h3 h0
    have e := hsame b o _ _ rfl h0
    refine ⟨b, o, rfl, fun k hk => ?_⟩
    rw [World.cell?_of_block (w := w) (w' := w') (a := ⟨b, o + k * 2, none⟩) e, World.cell?_of_block (w := w) (w' := w') (a := ⟨b, o + k * 2 + 1, none⟩) e]
    exact hA k hk
  · have e2 := hsame b o n c' e h0
    obtain ⟨hlt, hh⟩ := h4 b o n c' e h0
    exact ⟨Nat.lt_of_lt_of_le hlt hA.size, by rw [e2]; exact hh⟩
theorem results_mid {P : Program} {fn : Func} {p u v : Tmp} {ty : TypeId} (h : fn.results = #[.tmp u, .cell p ty, .tmp v]) (tmps : Array Value) (w : World) (g : Nat) (t : TypeId) (cs : Array Value) (fr : Nat × Nat) (d : TypeDesc)
    (hp : tmps.getD p undef = .pointer (some ⟨g, 0, none⟩)) (hg : w.heap[g]? = some (.cells cs t fr))
    (hu : P.underlying ty = some d) (hd : (match d with | .struct _ | .array _ _ => true | _ => false) = true) (hi : (P.info? ty).map (·.size) = some cs.size) :
    (results fn tmps).run P w = .ok (.tuple #[tmps.getD u undef, .agg cs, tmps.getD v undef]) w := by
  have hp' : tmps[p]?.getD undef = .pointer (some ⟨g, 0, none⟩) := by simpa using hp
  simp [results, h, hp', asAddr, run_loadVar_row w g t ty cs fr d hg hu hd hi]
section
variable {w0 w : World} {p b g s : Nat} {d : vd.Disk} {l : wl.L}
/-- a store that holds a log -/
abbrev kSt (w : World) (s g : Nat) : Prop := Vb w s [.pointer (some ⟨g, 0, none⟩)] 103
set_option maxHeartbeats 8000000 in
theorem raft_open {d2 : vd.Disk} {ts : List (List UInt8)} {T : Nat} {V : Int} {es : List rl.Ent} (h : Ldk w0 w p b d) (ht : TabAt w0) (hq : wl.open_ d RAFT = (d2, ts, 0)) (hf : rl.from_ ts = ((T, V, es), 0)) (hl : ts.length ≤ 10000) (hall : ∀ t ∈ ts, t.length ≤ maxLen) :
    Calls Tryz.prog 41 #[.pointer (some ⟨p, 0, none⟩)] w (fun e w' => ∃ s g u, e = .returned (.tuple #[.pointer (some ⟨s, 0, none⟩), stV T V u, .int .i64 0]) ∧ Ldk w0 w' p b d2 ∧ Apart [p, b] w w' ∧ w.heap.size ≤ g ∧ w.heap.size ≤ s ∧ kSt w' s g ∧ Lg w' g p ⟨RAFT, ts.length, false⟩ ∧ EntsB 0 w' u es) := by
  obtain ⟨W, hW⟩ : ∃ W, w.alloc (.cells #[.int .u64 0, .int .i64 0, .slice none 0 0] 46) = W := ⟨_, rfl⟩
  have hb : Below w.heap.size w W := by rw [← hW]; exact (Below.refl _ w).alloc (Nat.le_refl _) _
  have hv : Vb W w.heap.size [.int .u64 0, .int .i64 0, .slice none 0 0] 46 := by rw [← hW]; exact Vb.new w _ _
  have hdW := h.later hb
  have hO := ld_open RAFT hdW (by unfold RAFT; simp) ht
  have HQ := Lib.hid hq
  have HF := Lib.hid hf
  have HALL := Lib.hid hall
  have hpl := h.dk.blk.lt
  have hbl := h.dk.map.lt
  have H := Lib.hid h
  clear hq hf hall h
  go_enter Tryz.func41, Tryz.ntmps41
  go_wp2_with fail
  refine hO.mono ?_
  rintro e w1 h1
  obtain ⟨A, c, g, rfl, hd1, hA1, hg1, hk1, hl1⟩ := h1.ok HQ.out
  have hv1 : Vb w1 w.heap.size _ _ := hv.apart hA1 (by simp; omega)
  have hfr := from_any (.slice A ts.length c) ts w1 (sv_strs (hk1 w1 (.refl _ _))) hl HALL.out
  unfold FromPost at hfr
  rw [HF.out] at hfr
  have R1 := Lib.hid (And.intro hd1 (And.intro hl1 hv1))
  have hgs := hb.size
  clear hO h1 hk1 hd1 hl1 hv hv1 hdW
  go_wp2_with fail
  refine hfr.mono ?_
  rintro e w2 ⟨u, rfl, hE, hb2⟩
  obtain ⟨A2, c2, rfl⟩ : ∃ A c, u = .slice A es.length c := hE.form
  unfold stV
  obtain ⟨hd1, hl1, hv1⟩ := R1.out
  have hv2 : Vb w2 w.heap.size _ _ := (hb2.block _ hv1.lt).trans hv1
  have hd2 := hd1.later hb2
  have hl2 : Lg w2 g p _ := (hb2.block _ (Vb.lt hl1)).trans hl1
  have hA2 : Apart [p, b] w w2 := ((Apart.of_below hb _).trans hA1).trans (.of_below hb2 _)
  obtain ⟨W2, hW2⟩ : ∃ W2, w2.alloc (.cells #[.int .u64 (T : Int), .int .i64 V, .slice A2 es.length c2] 46) = W2 := ⟨_, rfl⟩
  have hb3 : Below w2.heap.size w2 W2 := by rw [← hW2]; exact (Below.refl _ w2).alloc (Nat.le_refl _) _
  have hs3 : W2.heap.size = w2.heap.size + 1 := by rw [← hW2]; exact Array.size_push _
  have hv3 : Vb W2 w.heap.size _ _ := (hb3.block _ hv2.lt).trans hv2
  have hx3 : Vb W2 w2.heap.size [.int .u64 (T : Int), .int .i64 V, .slice A2 es.length c2] 46 := by rw [← hW2]; exact Vb.new w2 _ _
  have q0 := hx3.cell 0 _ rfl
  have q1 := hx3.cell 1 _ rfl
  have q2 := hx3.cell 2 _ rfl
  have y0 := hv3.cell 0 _ rfl
  have y1 := hv3.cell 1 _ rfl
  have y2 := hv3.cell 2 _ rfl
  have z0 := hv3.free 0
  have z1 := hv3.free 1
  have z2 := hv3.free 2
  have hb4 : Below W2.heap.size W2 (W2.alloc (.cells #[.pointer (some ⟨g, 0, none⟩)] 103)) := (Below.refl _ W2).alloc (Nat.le_refl _) _
  have hv4 : Vb (W2.alloc (.cells #[.pointer (some ⟨g, 0, none⟩)] 103)) w.heap.size _ _ := (hb4.block _ hv3.lt).trans hv3
  have v0 := hv4.cell 0 _ rfl
  have v1 := hv4.cell 1 _ rfl
  have v2 := hv4.cell 2 _ rfl
  have f0 := hv4.free 0
  have f1 := hv4.free 1
  have f2 := hv4.free 2
  have x0 := cell_later hb4 q0
  have x1 := cell_later hb4 q1
  have x2 := cell_later hb4 q2
  obtain ⟨W3, hW3⟩ : ∃ W3, W2.alloc (.cells #[.pointer (some ⟨g, 0, none⟩)] 103) = W3 := ⟨_, rfl⟩
  have hst3 : Vb W3 (w2.heap.size + 1) [.pointer (some ⟨g, 0, none⟩)] 103 := by
    have := Vb.new W2 [.pointer (some ⟨g, 0, none⟩)] 103
    rw [hs3] at this
    rw [← hW3]; exact this
  rw [hW3] at hb4 hv4 v0 v1 v2 f0 f1 f2 x0 x1 x2
  have hws : w.heap.size < w2.heap.size := by have := hv2.lt; exact this
  have hgne : g ≠ w.heap.size := by have : W.heap.size = w.heap.size + 1 := by { rw [← hW]; exact Array.size_push _ }; omega
  obtain ⟨W5, hW5⟩ : ∃ W5, (((W3.setCell ⟨w.heap.size, 0, none⟩ (.int .u64 (T : Int))).setCell ⟨w.heap.size, 1, none⟩ (.int .i64 V)).setCell ⟨w.heap.size, 2, none⟩ (.slice A2 es.length c2)).drew = W5 := ⟨_, rfl⟩
  have hA5 : Apart [w.heap.size] W3 W5 := by
    rw [← hW5]
    exact (((Apart.setCell W3 w.heap.size 0 _).trans (Apart.setCell _ w.heap.size 1 _)).trans (Apart.setCell _ w.heap.size 2 _)).trans (.drew _ _)
  have hx5 : Vb W5 w.heap.size [.int .u64 (T : Int), .int .i64 V, .slice A2 es.length c2] 46 := by
    rw [← hW5]
    exact ((hv4.set 0 _).set 1 _).set 2 _
  have hd3 := (hd2.later hb3).later hb4
  have hd5 : Ldk w0 W5 p b d2 := hd3.next hA5 (by have := H.out.bel.size; simp; omega) (hd3.dk.apart hA5 (by simp; omega) (by simp; omega)) hd3.ok rfl
  have hl3 : Lg W3 g p _ := (hb4.block _ (Vb.lt (show Lg W2 g p _ from (hb3.block _ (Vb.lt hl2)).trans hl2))).trans ((hb3.block _ (Vb.lt hl2)).trans hl2)
  have hl5 : Lg W5 g p ⟨RAFT, ts.length, false⟩ := hl3.apart hA5 (by simpa using hgne)
  have hst5 : kSt W5 (w2.heap.size + 1) g := hst3.apart hA5 (by simp; omega)
  have hE3 : EntsB 0 W3 (.slice A2 es.length c2) es := (hE.later hb3).later hb4
  have hE5 : EntsB 0 W5 (.slice A2 es.length c2) es := hE3.apart hA5 (by
    intro x hx cur e
    obtain rfl : x = w.heap.size := by simpa using hx
    unfold Vb at hv4
    rw [hv4] at e
    injection e with e
    injection e with _ e _
    exact absurd e (by decide))
  have hA05 : Apart [p, b] w W5 := (((hA2.trans (.of_below hb3 _)).trans (.of_below hb4 _))).then hA5 (by simp) (by simp)
  have R2 := Lib.hid (And.intro hd5 (And.intro hl5 (And.intro hA05 (And.intro hE5 (And.intro hst5 hx5)))))
  have hsb : w.heap.size ≤ w2.heap.size + 1 := by omega
  have hgb : w.heap.size ≤ g := by have := hb.size; omega
  have HSB := Lib.hid hsb
  have HGB := Lib.hid hgb
  clear hx5 hd3 hd5 hl3 hl5 hst5 hE3 hE5 hA05 hA5 hst3 hgne hsb hgb
  clear hfr hd1 hl1 hv1 hv2 hd2 hl2 hA2 hE hA1 hv3 hv4 hb4
  go_wp2_with fail
  go_region
  all_goals go_wp2
  all_goals
    obtain ⟨hd5, hl5, hA05, hE5, hst5, hx5⟩ := R2.out
    refine bodyPost_ret (results_mid rfl _ _ w.heap.size _ _ (0, 0) _ rfl hx5 Tryz.underlying46 rfl state_size) rfl ?_
    exact ⟨w2.heap.size + 1, g, .slice A2 es.length c2, rfl, hd5, hA05, HGB.out, HSB.out, hst5, hl5, hE5⟩
end
end Go.Proofs.YtmcibggjolckoaaGreatDoor
