/- The document's Texts walked. -/
import Derived.Test.YtgaamknkigdoeaaRlTexts
import Derived.Deep.Onto
import Derived.Deep.DeepCutAuto
namespace Go.Proofs.Ytgaamknkigdoeaa
open Go Go.RowKit

theorem byte_back (q : Nat) (h : q < 256) : ∀ (g : Nat) (w : World), w.cell? ⟨g, 0, none⟩ = some (.int .u8 (q : Int)) → (convert 71 9 (.slice (some ⟨g, 0, none⟩) 1 1)).run Try.prog w = .ok (.string (crcm.mk [UInt8.ofNat q])) w := by
  intro g w hc
  refine run_convert_bytes_back (P := Try.prog) w 71 9 5 ⟨g, 0, none⟩ 1 [UInt8.ofNat q] Try.underlying71 Try.underlying5 Try.underlying9 (fun j hj => ?_)
  obtain rfl : j = 0 := by simp at hj; omega
  have := byteV_of q q rfl
  rw [Int.emod_eq_of_lt (by omega) (by omega)] at this
  unfold byteV at this
  rw [add_zero, hc, ← this]
  rfl
theorem box1_cell (w : World) (v : Value) (t : TypeId) : (w.alloc (.cells #[v] t)).drew.cell? ⟨w.heap.size, 0, none⟩ = some v := cell_of_row _ _ 0 _ _ _ (heap_alloc_new w (.cells #[v] t))

theorem rtexts_bad (T : Nat) (V : Int) (v : Value) (ls : List rl.Ent) (w : World) (hv : Ents w v ls) (hV : V < -1 ∨ 254 < V) :
    Calls Try.prog 21 #[stV T V v] w fun e w' => e = .returned (.tuple #[.slice none 0 0, .int .i64 1]) ∧ Below w.heap.size w w' := by
  obtain ⟨A, c, hu⟩ := hv.form
  subst hu
  clear hv
  obtain ⟨b0, b1, b2⟩ := box_cells w (.int .u64 (T : Int)) (.int .i64 V) (.slice A ls.length c) 38
  unfold stV
  rcases hV with h | h
  · go_enter Try.func21, Try.ntmps21
    go_wp2
    go_ret2
    exact ⟨rfl, below_alloc _ _⟩
  · have h2 : ¬ V < -1 := by omega
    go_enter Try.func21, Try.ntmps21
    go_wp2
    go_ret2
    exact ⟨rfl, below_alloc _ _⟩

set_option maxRecDepth 100000 in
set_option maxHeartbeats 8000000 in
theorem rtexts_good (T : Nat) (V : Int) (v : Value) (ls : List rl.Ent) (w : World) (hv : Ents w v ls) (h1 : -1 ≤ V) (h2 : V ≤ 254) (hw : Writable T ls) :
    Calls Try.prog 21 #[stV T V v] w fun e w' => ∃ u, e = .returned (.tuple #[u, .int .i64 0]) ∧ w'.ownsRow w.heap.size 9 1 u (ls.length + 1) ((rl.texts T V ls).map strV) ∧ Below w.heap.size w w' := by
  obtain ⟨i0, hi, hz0, hz1, hz2⟩ := info_parts info_string
  obtain ⟨A, c, hu⟩ := hv.form
  obtain ⟨n, hn⟩ : ∃ n, ls.length = n := ⟨_, rfl⟩
  rw [hn] at hu ⊢
  subst hu
  obtain ⟨hT, hl, hall⟩ := hw
  rw [hn] at hl
  have hx := HBox.new (T := T) (V := V) 38 hv
  have hb := below_box w (.int .u64 (T : Int)) (.int .i64 V) (.slice A n c) 38
  obtain ⟨b0, b1, b2⟩ := box_cells w (.int .u64 (T : Int)) (.int .i64 V) (.slice A n c) 38
  obtain ⟨q, hq⟩ : ∃ q : Nat, V + 1 = (q : Int) := ⟨(V + 1).toNat, by omega⟩
  have hq2 : q < 256 := by omega
  have hqh : rl.head T V = rl.le8 T ++ [UInt8.ofNat q] := by unfold rl.head; rw [hq]; rfl
  have hcat : crcm.mk (rl.le8 T) ++ crcm.mk [UInt8.ofNat q] = crcm.mk (rl.head T V) := by rw [hqh]; exact crcm.mk_append _ _
  have d1 : decide (V < -1) = false := by simp; omega
  have d2 : decide (254 < V) = false := by simp; omega
  have hs1 : (crcm.mk (rl.le8 T)).size = 8 := rfl
  have hs2 : (crcm.mk [UInt8.ofNat q]).size = 1 := rfl
  have hbk := byte_back q hq2
  have Hn := Lib.hid hn
  have HX := Lib.hid hx
  have HB := Lib.hid hb
  have HT := Lib.hid hT
  have HALL := Lib.hid hall
  have HV := Lib.hid hv
  clear hqh hn hx hb hT hall hv
  unfold stV
  go_enter Try.func21, Try.ntmps21
  go_wp2
  have hx := HX.out
  have hb := HB.out
  obtain ⟨X, hXe⟩ : ∃ X, w.alloc (.cells #[.int .u64 (T : Int), .int .i64 V, .slice A n c] 38) = X := ⟨_, rfl⟩
  rw [hXe] at hx hb b0 b1 b2 ⊢
  clear hXe HX HB
  have MK : Hid (∀ w', Below X.heap.size X w' → w'.cell? ⟨w.heap.size, 0, none⟩ = some (.int .u64 (T : Int)) ∧ w'.cell? ⟨w.heap.size, 1, none⟩ = some (.int .i64 V) ∧ w'.cell? ⟨w.heap.size, 2, none⟩ = some (.slice A n c)) := Lib.hid (fun w' h => ⟨cell_later h hx.c0, cell_later h hx.c1, cell_later h hx.c2⟩)
  have hW : Below X.heap.size X X.drew := below_drewN (Below.refl _ X) 1
  have HB := Lib.hid hb
  have HX := Lib.hid hx
  have hq8 : IntKind.u8.wrap (q : Int) = (q : Int) := by simp [IntKind.wrap, IntKind.bits, IntKind.signed]; omega
  have hqw : IntKind.i64.wrap (V + 1) = (q : Int) := by rw [hq]; simp [IntKind.wrap, IntKind.bits, IntKind.signed]; omega
  have Hq := Lib.hid hq
  clear hb hx b0 b1 b2 hq
  obtain ⟨m0, m1, _⟩ := MK.out X (Below.refl _ X)
  obtain ⟨y0, y1, _⟩ := MK.out (X.alloc (.cells #[.int .u8 (q : Int)] 5)) (below_alloc X _)
  go_cut [4] (fun s4 wx => wx.ownsRow X.heap.size 9 1 s4 (0 + 1) ((rl.texts T V (ls.take 0)).map strV) ∧ Below X.heap.size X wx)
  case first =>
    go_region_with (first | (go_at_call 31; refine (rnum_any T _ HT.out).mono ?_; rintro e w6 ⟨rfl, hb⟩; (try have kq := cell_later hb (box1_cell X (.int .u8 (q : Int)) 5)); (first | have hW := hW.trans (hb.mono hW.size) | have hW := (below_drewN (below_alloc X _) 1).trans (hb.mono (below_drewN (below_alloc X _) 1).size)); obtain ⟨z0, z1, _⟩ := MK.out _ hW; obtain ⟨x0, x1, _⟩ := MK.out (w6.alloc (.cells #[.int .u8 (q : Int)] 5)) (hW.trans ((below_alloc w6 _).mono hW.size))))
    all_goals
      have hown1 : (w6.alloc (.cells #[.string (crcm.mk (rl.head T V))] 9)).ownsRow X.heap.size 9 1 (.slice (some ⟨w6.heap.size, 0, none⟩) 1 1) (0 + 1) ((rl.texts T V (ls.take 0)).map strV) :=
        ⟨rfl, .inr ⟨w6.heap.size, 1, #[.string (crcm.mk (rl.head T V))], rfl, hW.size, heap_alloc_new w6 _, Nat.le_refl _, by unfold maxLen; omega, rfl, rfl⟩⟩
      have hB1 : Below X.heap.size X (w6.alloc (.cells #[.string (crcm.mk (rl.head T V))] 9)) := hW.alloc hW.size _
      have hown2 : ((w6.alloc (.cells #[.int .u8 (q : Int)] 5)).alloc (.cells #[.string (crcm.mk (rl.head T V))] 9)).ownsRow X.heap.size 9 1 (.slice (some ⟨w6.heap.size + 1, 0, none⟩) 1 1) (0 + 1) ((rl.texts T V (ls.take 0)).map strV) :=
        ⟨rfl, .inr ⟨w6.heap.size + 1, 1, #[.string (crcm.mk (rl.head T V))], rfl, Nat.le_succ_of_le hW.size, (by have := heap_alloc_new (w6.alloc (.cells #[.int .u8 (q : Int)] 5)) (.cells #[.string (crcm.mk (rl.head T V))] 9); simpa using this), Nat.le_refl _, by unfold maxLen; omega, rfl, rfl⟩⟩
      have hB2 : Below X.heap.size X ((w6.alloc (.cells #[.int .u8 (q : Int)] 5)).alloc (.cells #[.string (crcm.mk (rl.head T V))] 9)) := (hW.alloc hW.size _).alloc (by have := hW.size; simp; omega) _
      clear hbk hq8 m0 m1 y0 y1 z0 z1 x0 x1 hqw
      go_wp2_with fail
      go_meet
      first
        | with_reducible exact ⟨hown1, hB1⟩
        | with_reducible exact ⟨hown2, hB2⟩
  case rest =>
    obtain ⟨hown0, hB7⟩ := hcut
    have HO0 := Lib.hid hown0
    have HB7 := Lib.hid hB7
    clear hown0 hB7 hW hqw hcat hs1 hs2 hbk hq8 m0 m1 y0 y1
    obtain ⟨_, _, c2⟩ := MK.out _ HB7.out
    go_wp2
    go_loopw [4, 5] (fun v i wr => ∃ k : Nat, k ≤ n ∧ i = .int .i64 k ∧ wr.ownsRow X.heap.size 9 1 v (k + 1) ((rl.texts T V (ls.take k)).map strV) ∧ Below X.heap.size X wr) (fun _ i _ => n - (intOf i).toNat)
    case atStart => exact ⟨0, Nat.zero_le _, rfl, HO0.out, HB7.out⟩
    case round =>
      obtain ⟨k, hk, rfl, hown, hb⟩ := hrel
      have HO := Lib.hid hown
      have HBB := Lib.hid hb
      obtain ⟨_, _, c2⟩ := MK.out _ hb
      have HBW := Lib.hid (HB.out.trans (hb.mono HB.out.size))
      clear hown hb
      by_cases hlt : k < n
      · obtain ⟨b, o, rfl, x0, x1⟩ := (HV.out.below HBW.out).row k hlt
        have hmem := HALL.out _ (getD_mem (ls := ls) (k := k) (by rw [Hn.out]; exact hlt))
        have hnx := texts_take T V ls k (by rw [Hn.out]; exact hlt)
        obtain ⟨x, hx⟩ : ∃ x, ls.getD k rl.e0 = x := ⟨_, rfl⟩
        rw [hx] at x0 x1 hmem hnx
        obtain ⟨hm1, hm2⟩ := hmem
        have hsz : (crcm.mk x.2).size ≤ 60000 := by rw [crcm.mk_size]; exact hm2
        have hs8 : (crcm.mk (rl.le8 x.1)).size = 8 := rfl
        have hcat : crcm.mk (rl.le8 x.1) ++ crcm.mk x.2 = crcm.mk (rl.enc x) := crcm.mk_append _ _
        have hi1 : (k : Int) < (n : Int) := by omega
        have hk1 : k + 1 ≤ 10000 := by omega
        have hno : ¬ 9223372036854775807 < 8 + (crcm.mk x.2).size := by omega
        have HNX := Lib.hid hnx
        have HM1 := Lib.hid hm1
        clear hx hnx hm1
        go_wp2
        have hW9 : Below wr.heap.size wr wr.drew := below_drewN (Below.refl _ wr) 1
        go_region_law (first | (refine step_append_own rfl (.tmp 40) (.tmp 55) 51 rfl X.heap.size 9 i0 _ 1 16 Try.underlying51 hi hz0 hz1 hz2 rfl (by decide) u4 (k + 1) _ rfl ((owns_below HO.out hW9).alloc _) ⟨w9.heap.size, 0, none⟩ 1 1 [strV (rl.enc x)] rfl rfl (cell_new1 _ _ _) (strV_one _) ?_ ?_ ?_ ?_; unfold maxLen; omega; omega; (have q1 := hW9.size; have q2 := HBB.out.size; simp; omega); intro v' w3 hown' hgrow') | (go_simp; go_at_call 31; refine (rnum_any x.1 _ HM1.out).mono ?_; rintro e w9 ⟨rfl, hb9⟩; have hW9 := hW9.trans (hb9.mono hW9.size); have g0' := cell_later hW9 c2; have g1' := cell_later hW9 x0; have g2' := cell_later hW9 x1))
        all_goals
          have hb9' : Below X.heap.size X w9 := HBB.out.trans (hW9.mono HBB.out.size)
          have hb3 : Below X.heap.size X w3 := (hb9'.alloc hb9'.size _).grown hgrow' (by have := hb9'.size; simp; omega) (fun j hj => (HO.out.lt j hj).1)
          have hown3 : w3.ownsRow X.heap.size 9 1 v' (k + 1 + 1) ((rl.texts T V (ls.take (k + 1))).map strV) := by
            rw [← HNX.out, List.map_append]; exact hown'
          have HO3 := Lib.hid hown3
          have HB3 := Lib.hid hb3
          clear hown' hgrow' hown3 hb3 hb9' hb9 hW9 g0' g1' g2' x0 x1 c2 hcat
          simp only [Exit.inBlock, Exit.then]
          go_wp2
          go_roundw
          case rel => exact ⟨k + 1, by omega, by go_num, HO3.out, HB3.out⟩
          case measure => simp [intOf]; omega
      · obtain rfl : k = n := by omega
        have htk : ls.take k = ls := List.take_of_length_le (by rw [Hn.out]; exact Nat.le_refl _)
        rw [htk] at HO
        go_wp2
        go_ret2
        exact ⟨_, rfl, HO.out.mono HB.out.size, HBW.out⟩
end Go.Proofs.Ytgaamknkigdoeaa
