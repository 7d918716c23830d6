/- raftlog.Texts walked. -/
import Derived.Test.YtdnoeahhidmkbaaDoorSvNum2
import Derived.Deep.RegionHeld3
import Derived.Deep.RegionLaw
namespace Go.Proofs.YtdnoeahhidmkbaaDoor.Sv
open Go Go.RowKit
set_option maxRecDepth 100000
theorem Ents.at_ {w : World} {A : Option Addr} {n c : Nat} {ls : List rl.Ent} (h : Ents w (.slice A n c) ls) (hlt : 0 < ls.length) : ∃ b o, A = some ⟨b, o, none⟩ ∧ EntsAt w b o ls := by
  obtain ⟨A', c', e, _, _, h0⟩ := h
  obtain ⟨rfl, _, rfl⟩ : A = A' ∧ n = ls.length ∧ c = c' := by injection e with e1 e2 e3; exact ⟨e1, e2, e3⟩
  exact h0 hlt
theorem Ents.row {w : World} {A : Option Addr} {n c : Nat} {ls : List rl.Ent} (h : Ents w (.slice A n c) ls) (k : Nat) (hk : k < n) :
    ∃ b o, A = some ⟨b, o, none⟩ ∧ w.cell? ⟨b, o + k * 2, none⟩ = some (.int .u64 ((ls.getD k rl.e0).1 : Int)) ∧ w.cell? ⟨b, o + k * 2 + 1, none⟩ = some (.string (crcm.mk (ls.getD k rl.e0).2)) := by
  have hn : n = ls.length := by obtain ⟨A', c', e, _⟩ := h; injection e
  obtain ⟨b, o, rfl, hA⟩ := h.at_ (by omega)
  obtain ⟨h0, h1⟩ := hA k (by omega)
  exact ⟨b, o, rfl, h0, h1⟩

/-- a state's box -/
structure HBox (W : World) (g T : Nat) (V : Int) (v : Value) (ls : List rl.Ent) : Prop where
  c0 : W.cell? ⟨g, 0, none⟩ = some (.int .u64 (T : Int))
  c1 : W.cell? ⟨g, 1, none⟩ = some (.int .i64 V)
  c2 : W.cell? ⟨g, 2, none⟩ = some v
  e : Ents W v ls
theorem HBox.below {W W' : World} {g T : Nat} {V : Int} {v : Value} {ls : List rl.Ent} (h : HBox W g T V v ls) (hb : Below W.heap.size W W') : HBox W' g T V v ls :=
  ⟨cell_later hb h.c0, cell_later hb h.c1, cell_later hb h.c2, h.e.below hb⟩
theorem HBox.new {W : World} {T : Nat} {V : Int} {v : Value} {ls : List rl.Ent} (t : TypeId) (h : Ents W v ls) : HBox (W.alloc (.cells #[.int .u64 (T : Int), .int .i64 V, v] t)) W.heap.size T V v ls := by
  obtain ⟨b0, b1, b2⟩ := box_cells W (.int .u64 (T : Int)) (.int .i64 V) v t
  exact ⟨b0, b1, b2, h.below (below_alloc _ _)⟩

theorem same_self (T : Nat) (V : Int) (u v : Value) (ls : List rl.Ent) (w : World) (hu : Ents w u ls) (hv : Ents w v ls) (hl : ls.length ≤ 100000) :
    Calls Tryd.prog 33 #[stV T V u, stV T V v] w fun e w' => e = .returned (.bool true) ∧ Below w.heap.size w w' := by
  have h := same_any T T V V u v ls ls w hu hv hl hl
  have hd : decide (T = T ∧ V = V ∧ ls = ls) = true := by simp
  rw [hd] at h
  exact h
theorem below_box (w : World) (a b c : Value) (t : TypeId) : Below w.heap.size w (w.alloc (.cells #[a, b, c] t)) := below_alloc _ _


namespace rl
def enc (t : Ent) : List UInt8 := le8 t.1 ++ t.2
def head (T : Nat) (V : Int) : List UInt8 := le8 T ++ [UInt8.ofNat (V + 1).toNat]
def texts (T : Nat) (V : Int) (ls : List Ent) : List (List UInt8) := head T V :: ls.map enc
end rl
theorem texts_take (T : Nat) (V : Int) (ls : List rl.Ent) (k : Nat) (h : k < ls.length) : rl.texts T V (ls.take k) ++ [rl.enc (ls.getD k rl.e0)] = rl.texts T V (ls.take (k + 1)) := by
  unfold rl.texts
  rw [take_snoc h, List.map_append]
  rfl
/-- the states whose texts may be written -/
def Writable (T : Nat) (ls : List rl.Ent) : Prop := T < 18446744073709551616 ∧ ls.length ≤ 10000 ∧ ∀ t ∈ ls, t.1 < 18446744073709551616 ∧ t.2.length ≤ 60000

theorem texts_bad (T : Nat) (V : Int) (v : Value) (ls : List rl.Ent) (w : World) (hv : Ents w v ls) (hV : V < -1 ∨ 254 < V) :
    Calls Tryd.prog 31 #[stV T V v] w fun e w' => e = .returned (.tuple #[.slice none 0 0, .int .i64 1]) ∧ Below w.heap.size w w' := by
  obtain ⟨A, c, hu⟩ := hv.form
  subst hu
  clear hv
  obtain ⟨b0, b1, b2⟩ := box_cells w (.int .u64 (T : Int)) (.int .i64 V) (.slice A ls.length c) 61
  unfold stV
  rcases hV with h | h
  · go_enter Tryd.func31, Tryd.ntmps31
    go_wp2
    go_ret2
    exact ⟨rfl, below_alloc _ _⟩
  · have h2 : ¬ V < -1 := by omega
    go_enter Tryd.func31, Tryd.ntmps31
    go_wp2
    go_ret2
    exact ⟨rfl, below_alloc _ _⟩

set_option maxRecDepth 100000 in
set_option maxHeartbeats 4000000 in
theorem texts_good (T : Nat) (V : Int) (v : Value) (ls : List rl.Ent) (w : World) (hv : Ents w v ls) (h1 : -1 ≤ V) (h2 : V ≤ 254) (hw : Writable T ls) :
    Calls Tryd.prog 31 #[stV T V v] w fun e w' => ∃ u, e = .returned (.tuple #[u, .int .i64 0]) ∧ w'.ownsRow w.heap.size 9 1 u (ls.length + 1) ((rl.texts T V ls).map strV) ∧ Below w.heap.size w w' := by
  obtain ⟨i0, hi, hz0, hz1, hz2⟩ := info_parts info_string
  obtain ⟨A, c, hu⟩ := hv.form
  obtain ⟨n, hn⟩ : ∃ n, ls.length = n := ⟨_, rfl⟩
  rw [hn] at hu ⊢
  subst hu
  obtain ⟨hT, hl, hall⟩ := hw
  rw [hn] at hl
  have hx := HBox.new (T := T) (V := V) 61 hv
  have hb := below_box w (.int .u64 (T : Int)) (.int .i64 V) (.slice A n c) 61
  obtain ⟨b0, b1, b2⟩ := box_cells w (.int .u64 (T : Int)) (.int .i64 V) (.slice A n c) 61
  obtain ⟨q, hq⟩ : ∃ q : Nat, V + 1 = (q : Int) := ⟨(V + 1).toNat, by omega⟩
  have hq2 : q < 256 := by omega
  have hqh : rl.head T V = rl.le8 T ++ [UInt8.ofNat q] := by unfold rl.head; rw [hq]; rfl
  have hcat : crcm.mk (rl.le8 T) ++ crcm.mk [UInt8.ofNat q] = crcm.mk (rl.head T V) := by rw [hqh]; exact crcm.mk_append _ _
  have d1 : decide (V < -1) = false := by simp; omega
  have d2 : decide (254 < V) = false := by simp; omega
  have hs1 : (crcm.mk (rl.le8 T)).size = 8 := rfl
  have hs2 : (crcm.mk [UInt8.ofNat q]).size = 1 := rfl
  have Hn := Lib.hid hn
  have HX := Lib.hid hx
  have HB := Lib.hid hb
  have HT := Lib.hid hT
  have HALL := Lib.hid hall
  have HV := Lib.hid hv
  clear hqh hn hx hb hT hall hv
  unfold stV
  go_enter Tryd.func31, Tryd.ntmps31
  go_wp2
  have hx := HX.out
  have hb := HB.out
  obtain ⟨X, hXe⟩ : ∃ X, w.alloc (.cells #[.int .u64 (T : Int), .int .i64 V, .slice A n c] 61) = X := ⟨_, rfl⟩
  rw [hXe] at hx hb b0 b1 b2 ⊢
  clear hXe HX HB
  have MK : Hid (∀ w', Below X.heap.size X w' → w'.cell? ⟨w.heap.size, 0, none⟩ = some (.int .u64 (T : Int)) ∧ w'.cell? ⟨w.heap.size, 1, none⟩ = some (.int .i64 V) ∧ w'.cell? ⟨w.heap.size, 2, none⟩ = some (.slice A n c)) := Lib.hid (fun w' h => ⟨cell_later h hx.c0, cell_later h hx.c1, cell_later h hx.c2⟩)
  have hW : Below X.heap.size X X.drew := below_drewN (Below.refl _ X) 1
  have HB := Lib.hid hb
  have HX := Lib.hid hx
  have hqw : IntKind.i64.wrap (V + 1) = (q : Int) := by rw [hq]; simp [IntKind.wrap, IntKind.bits, IntKind.signed]; omega
  have Hq := Lib.hid hq
  clear hb hx b0 b1 b2 hq
  go_region_held3 (fun w' => w'.cell? ⟨w.heap.size, 0, none⟩ = some (.int .u64 (T : Int)) ∧ w'.cell? ⟨w.heap.size, 1, none⟩ = some (.int .i64 V) ∧ w'.cell? ⟨w.heap.size, 2, none⟩ = some (.slice A n c))
    (first | exact MK.out _ hW | exact MK.out _ (hW.trans ((below_alloc _ _).mono hW.size)))
    (first | (go_at_call 57; refine (little_any T _ HT.out).mono ?_; rintro e w6 ⟨rfl, hb⟩; have hW := hW.trans (hb.mono hW.size)) | (go_at_call 58; refine (little1_any q _ hq2).mono ?_; rintro e w6 ⟨rfl, hb⟩; have hW := hW.trans (hb.mono hW.size)))
  have hB6 : Below w.heap.size w w6 := HB.out.trans (hW.mono HB.out.size)
  have hown0 : (w6.alloc (.cells #[.string (crcm.mk (rl.head T V))] 9)).ownsRow w.heap.size 9 1 (.slice (some ⟨w6.heap.size, 0, none⟩) 1 1) (0 + 1) ((rl.texts T V (ls.take 0)).map strV) :=
    ⟨rfl, .inr ⟨w6.heap.size, 1, #[.string (crcm.mk (rl.head T V))], rfl, hB6.size, heap_alloc_new w6 _, Nat.le_refl _, by unfold maxLen; omega, rfl, rfl⟩⟩
  have hB7 : Below w.heap.size w (w6.alloc (.cells #[.string (crcm.mk (rl.head T V))] 9)) := hB6.alloc hB6.size _
  have c2 := (MK.out _ (hW.trans ((below_alloc w6 (.cells #[.string (crcm.mk (rl.head T V))] 9)).mono hW.size))).2.2
  have HO0 := Lib.hid hown0
  have HB7 := Lib.hid hB7
  clear hown0 hB7 hB6 hW hb hqw hcat hs1 hs2
  simp only [Exit.then]
  go_wp2
  go_loopw [4, 27] (fun v i wr => ∃ k : Nat, k ≤ n ∧ i = .int .i64 k ∧ wr.ownsRow w.heap.size 9 1 v (k + 1) ((rl.texts T V (ls.take k)).map strV) ∧ Below w.heap.size w wr) (fun _ i _ => n - (intOf i).toNat)
  case atStart => exact ⟨0, Nat.zero_le _, rfl, HO0.out, HB7.out⟩
  case round =>
    obtain ⟨k, hk, rfl, hown, hb⟩ := hrel
    have HO := Lib.hid hown
    have HBB := Lib.hid hb
    clear hown hb
    by_cases hlt : k < n
    · obtain ⟨b, o, rfl, x0, x1⟩ := (HV.out.below HBB.out).row k hlt
      have hmem := HALL.out _ (getD_mem (ls := ls) (k := k) (by rw [Hn.out]; exact hlt))
      have hnx := texts_take T V ls k (by rw [Hn.out]; exact hlt)
      obtain ⟨x, hx⟩ : ∃ x, ls.getD k rl.e0 = x := ⟨_, rfl⟩
      rw [hx] at x0 x1 hmem hnx
      obtain ⟨hm1, hm2⟩ := hmem
      have hsz : (crcm.mk x.2).size ≤ 60000 := by rw [crcm.mk_size]; exact hm2
      have hs8 : (crcm.mk (rl.le8 x.1)).size = 8 := rfl
      have hcat : crcm.mk (rl.le8 x.1) ++ crcm.mk x.2 = crcm.mk (rl.enc x) := crcm.mk_append _ _
      have hi1 : (k : Int) < (n : Int) := by omega
      have HNX := Lib.hid hnx
      have HM1 := Lib.hid hm1
      clear hx hnx hm1
      obtain ⟨g0, g1⟩ := box2_cells wr (.int .u64 (x.1 : Int)) (.string (crcm.mk x.2)) 101
      have HA := Lib.hid (below_alloc wr (.cells #[.int .u64 (x.1 : Int), .string (crcm.mk x.2)] 101))
      go_wp2
      obtain ⟨Y, hY⟩ : ∃ Y, wr.alloc (.cells #[.int .u64 (x.1 : Int), .string (crcm.mk x.2)] 101) = Y := ⟨_, rfl⟩
      have ha := HA.out
      rw [hY] at g0 g1 ha ⊢
      have hOY : Y.ownsRow w.heap.size 9 1 u4 (k + 1) ((rl.texts T V (ls.take k)).map strV) := by rw [← hY]; exact HO.out.alloc _
      have HOY := Lib.hid hOY
      have HBY := Lib.hid (HBB.out.trans (ha.mono HBB.out.size))
      clear hY HA ha hOY x0 x1
      have hW9 : Below Y.heap.size Y Y.drew := below_drewN (Below.refl _ Y) 1
      have hk1 : k + 1 ≤ 10000 := by omega
      have hno : ¬ 9223372036854775807 < 8 + (crcm.mk x.2).size := by omega
      go_region_law (first | (refine step_append_own rfl (.tmp 35) (.tmp 42) 26 rfl w.heap.size 9 i0 _ 1 16 Tryd.underlying26 hi hz0 hz1 hz2 rfl (by decide) u4 (k + 1) _ rfl ((owns_below HOY.out hW9).alloc _) ⟨w9.heap.size, 0, none⟩ 1 1 [strV (rl.enc x)] rfl rfl (cell_new1 _ _ _) (strV_one _) ?_ ?_ ?_ ?_; unfold maxLen; omega; omega; (have q1 := hW9.size; have q2 := HBY.out.size; simp; omega); intro v' w3 hown' hgrow') | (go_simp; go_at_call 57; refine (little_any x.1 _ HM1.out).mono ?_; rintro e w9 ⟨rfl, hb9⟩; have hW9 := hW9.trans (hb9.mono hW9.size); have g0' := cell_later hW9 g0; have g1' := cell_later hW9 g1))
      all_goals
        have hb9' : Below w.heap.size w w9 := HBY.out.trans (hW9.mono HBY.out.size)
        have hb3 : Below w.heap.size w w3 := (hb9'.alloc hb9'.size _).grown hgrow' (by have := hb9'.size; simp; omega) (fun j hj => (HOY.out.lt j hj).1)
        have hown3 : w3.ownsRow w.heap.size 9 1 v' (k + 1 + 1) ((rl.texts T V (ls.take (k + 1))).map strV) := by
          rw [← HNX.out, List.map_append]; exact hown'
        have HO3 := Lib.hid hown3
        have HB3 := Lib.hid hb3
        clear hown' hgrow' hown3 hb3 hb9' hb9 hW9 g0' g1' g0 g1 hcat
        simp only [Exit.inBlock, Exit.then]
        go_wp2
        go_roundw
        case rel => exact ⟨k + 1, by omega, by go_num, HO3.out, HB3.out⟩
        case measure => simp [intOf]; omega
    · obtain rfl : k = n := by omega
      have htk : ls.take k = ls := List.take_of_length_le (by rw [Hn.out]; exact Nat.le_refl _)
      rw [htk] at HO
      go_wp2
      go_ret2
      exact ⟨_, rfl, HO.out, HBB.out⟩
end Go.Proofs.YtdnoeahhidmkbaaDoor.Sv
