/- The document's disk and log: RdText, RdSmall, RdList, RdCrash, RdDone, one behind the other. -/
import Derived.Deep.RegionLaw
import Derived.Deep.RegionHeld3
import Derived.Deep.DeepCutAuto
import Derived.Laws.OwnMore
import Derived.Test.YtdnoeahhidmkbaaDoorWlApp
import Derived.BigQuiet
import Derived.Deep.QuietTactic
namespace Go.Proofs.YtdnoeahhidmkbaaDoor
section
open Go Go.RowKit
set_option maxRecDepth 100000

def fcells (L : vd.Files) : List Value := L.flatMap fun x => [keyV x.1, .string (crcm.mk x.2.1), .int .i64 (x.2.2 : Int)]
theorem fcells_append (a b : vd.Files) : fcells (a ++ b) = fcells a ++ fcells b := by unfold fcells; rw [List.flatMap_append]
theorem fcells_len (a : vd.Files) : (fcells a).length = a.length * 3 := by
  induction a with
  | nil => rfl
  | cons x r ih => rw [show x :: r = [x] ++ r from rfl, fcells_append, List.length_append, ih]; simp [fcells]; omega
theorem fcells_one (a : vd.Files) : ∀ u ∈ fcells a, u.oneCell' = true := by
  intro u hu
  obtain ⟨t, _, ht⟩ := List.mem_flatMap.1 hu
  simp at ht
  rcases ht with rfl | rfl | rfl <;> rfl
theorem fcells_get (L : vd.Files) (k : Nat) (x : vd.Name × vd.File) (h : L[k]? = some x) : (fcells L)[k * 3]? = some (keyV x.1) ∧ (fcells L)[k * 3 + 1]? = some (.string (crcm.mk x.2.1)) ∧ (fcells L)[k * 3 + 2]? = some (.int .i64 (x.2.2 : Int)) := by
  induction L generalizing k with
  | nil => simp at h
  | cons y r ih =>
    rw [show y :: r = [y] ++ r from rfl, fcells_append]
    cases k with
    | zero =>
      obtain rfl : y = x := by simpa using h
      exact ⟨rfl, rfl, rfl⟩
    | succ k =>
      have hl : (fcells [y]).length = 3 := rfl
      have := ih k (by simpa using h)
      rw [List.getElem?_append_right (by rw [hl]; omega), List.getElem?_append_right (by rw [hl]; omega), List.getElem?_append_right (by rw [hl]; omega), hl]
      rw [show (k + 1) * 3 - 3 = k * 3 from by omega, show (k + 1) * 3 + 1 - 3 = k * 3 + 1 from by omega, show (k + 1) * 3 + 2 - 3 = k * 3 + 2 from by omega]
      exact this
abbrev FRow (w : World) (B : Nat) (v : Value) (L : vd.Files) : Prop := w.ownsRow B 99 3 v L.length (fcells L)
theorem FRow.at_ {w : World} {B : Nat} {A : Option Addr} {n c : Nat} {L : vd.Files} (h : FRow w B (.slice A n c) L) (k : Nat) (x : vd.Name × vd.File) (hx : L[k]? = some x) :
    ∃ g, A = some ⟨g, 0, none⟩ ∧ B ≤ g ∧ w.cell? ⟨g, k * 3, none⟩ = some (keyV x.1) ∧ w.cell? ⟨g, k * 3 + 1, none⟩ = some (.string (crcm.mk x.2.1)) ∧ w.cell? ⟨g, k * 3 + 2, none⟩ = some (.int .i64 (x.2.2 : Int)) := by
  have hlt : k < L.length := by
    by_cases h : k < L.length
    · exact h
    · rw [List.getElem?_eq_none (by omega)] at hx; cases hx
  have h' := h
  rcases h'.2 with ⟨_, h0⟩ | ⟨g, cap, cur, e, hb, _⟩
  · omega
  · injection e with e1 e2 e3
    subst e1
    obtain ⟨h0, h1, h2⟩ := fcells_get L k x hx
    have ha : ∀ j, (⟨g, 0, none⟩ : Addr).add j = ⟨g, j, none⟩ := fun j => by unfold Addr.add; split <;> simp_all
    have q0 := h.cells (g := g) rfl _ _ h0
    have q1 := h.cells (g := g) rfl _ _ h1
    have q2 := h.cells (g := g) rfl _ _ h2
    rw [ha] at q0 q1 q2
    exact ⟨g, rfl, hb, q0, q1, q2⟩
theorem FRow.form {w : World} {B : Nat} {v : Value} {L : vd.Files} (h : FRow w B v L) : ∃ A c, v = .slice A L.length c := by
  rcases h.2 with ⟨rfl, h0⟩ | ⟨g, cap, cur, rfl, _⟩
  · exact ⟨none, 0, by rw [h0]⟩
  · exact ⟨_, _, rfl⟩
theorem FRow.low {w : World} {B : Nat} {v : Value} {L : vd.Files} (h : FRow w B v L) : FRow w 0 v L := owns_mono h (Nat.zero_le _)
/-- a disk of the document -/
def rdV (c : Nat) (v : Value) (off : Bool) (left : Nat) (keep : Int) : Value := .agg #[.int .i64 (c : Int), v, .bool off, .int .i64 (left : Int), .int .i64 keep]
def rdC (c : Nat) (v : Value) (off : Bool) (left : Nat) (keep : Int) : List Value := [.int .i64 (c : Int), v, .bool off, .int .i64 (left : Int), .int .i64 keep]
theorem mk_toListE (a b : List UInt8) : ((crcm.mk a).toList == (crcm.mk b).toList) = decide (a = b) := by
  rw [mk_toL, mk_toL]
  by_cases h : a = b
  · subst h; simp
  · rw [decide_eq_false h]; simpa using h
section
variable {w : World} {c cc n left : Nat} {A : Option Addr} {off : Bool} {keep : Int} {L : vd.Files}
set_option maxHeartbeats 4000000 in
theorem rd_find (m : vd.Name) (hL : FRow w 0 (.slice A n cc) L) (hn : L.length = n) (hl : n ≤ 1000) :
    Calls Tryd.prog 74 #[rdV c (.slice A n cc) off left keep, keyV m] w (fun e w' => ∃ i : Int, e = .returned (.int .i64 i) ∧ Below w.heap.size w w' ∧ ((i = -1 ∧ ∀ x ∈ L, x.1 ≠ m) ∨ ∃ (j : Nat) (x : vd.Name × vd.File), i = (j : Int) ∧ L[j]? = some x ∧ x.1 = m)) := by
  obtain ⟨W, hW⟩ : ∃ W, w.alloc (.cells #[.int .i64 (c : Int), .slice A n cc, .bool off, .int .i64 (left : Int), .int .i64 keep] 45) = W := ⟨_, rfl⟩
  have hb : Below w.heap.size w W := by rw [← hW]; exact (Below.refl _ w).alloc (Nat.le_refl _) _
  have hv : Vb W w.heap.size (rdC c (.slice A n cc) off left keep) 45 := by rw [← hW]; exact Vb.new w _ _
  have q1 := hv.cell 1 _ rfl
  have hLW := owns_below hL hb
  have HL := Lib.hid hLW
  have HN := Lib.hid hn
  have HB := Lib.hid hb
  unfold rdV keyV
  clear hL hn hb hv hLW
  go_enter Tryd.func74, Tryd.ntmps74
  go_wp2
  go_loopw [5] (fun i wr => ∃ k : Nat, k ≤ n ∧ i = .int .i64 k ∧ W = wr ∧ ∀ j x, j < k → L[j]? = some x → x.1 ≠ m) (fun i _ => n - (intOf i).toNat)
  case atStart => exact ⟨0, Nat.zero_le _, rfl, rfl, fun j x h => by omega⟩
  case round =>
    obtain ⟨k, hk, rfl, rfl, hall⟩ := hrel
    have HALL := Lib.hid hall
    clear hall
    by_cases hlt : k < n
    · obtain ⟨x, hx⟩ : ∃ x, L[k]? = some x := ⟨_, List.getElem?_eq_getElem (by rw [HN.out]; exact hlt)⟩
      obtain ⟨g, rfl, _, k0, k1, k2⟩ := FRow.at_ HL.out k x hx
      have he := mk_toListE x.1 m
      unfold keyV at k0
      have HX := Lib.hid hx
      clear hx
      by_cases hxm : x.1 = m
      · rw [decide_eq_true hxm] at he
        have HXM := Lib.hid hxm
        clear hxm
        go_wp2
        go_ret
        exact ⟨k, rfl, HB.out, .inr ⟨k, x, rfl, HX.out, HXM.out⟩⟩
      · rw [decide_eq_false hxm] at he
        have HXM := Lib.hid hxm
        clear hxm
        go_wp2
        go_roundw
        case rel =>
          refine ⟨k + 1, by omega, by go_num, by simp, fun j y hj hy => ?_⟩
          rcases Nat.lt_succ_iff_lt_or_eq.1 hj with h | rfl
          · exact HALL.out j y h hy
          · rw [HX.out] at hy; cases hy; exact HXM.out
        case measure => simp [intOf]; omega
    · obtain rfl : k = n := by omega
      go_wp2
      go_ret
      refine ⟨-1, rfl, HB.out, .inl ⟨rfl, fun x hx => ?_⟩⟩
      obtain ⟨j, hj⟩ := List.getElem?_of_mem hx
      refine HALL.out j x ?_ hj
      by_cases h : j < L.length
      · rw [HN.out] at h; exact h
      · rw [List.getElem?_eq_none (by omega)] at hj; cases hj
end
end
section
open Go Go.RowKit
set_option maxRecDepth 100000

theorem results_c1 {P : Program} {fn : Func} {p : Tmp} {ty : TypeId} (h : fn.results = #[.cell p ty]) (tmps : Array Value) (w : World) (g : Nat) (t : TypeId) (cs : Array Value) (fr : Nat × Nat) (d : TypeDesc)
    (hp : tmps.getD p undef = .pointer (some ⟨g, 0, none⟩)) (hg : w.heap[g]? = some (.cells cs t fr))
    (hu : P.underlying ty = some d) (hd : (match d with | .struct _ | .array _ _ => true | _ => false) = true) (hi : (P.info? ty).map (·.size) = some cs.size) :
    (results fn tmps).run P w = .ok (.agg cs) w := by
  have hp' : tmps[p]?.getD undef = .pointer (some ⟨g, 0, none⟩) := by simpa using hp
  simp [results, h, hp', asAddr, run_loadVar_row w g t ty cs fr d hg hu hd hi]
theorem results_c1t {P : Program} {fn : Func} {p u : Tmp} {ty : TypeId} (h : fn.results = #[.cell p ty, .tmp u]) (tmps : Array Value) (w : World) (g : Nat) (t : TypeId) (cs : Array Value) (fr : Nat × Nat) (d : TypeDesc)
    (hp : tmps.getD p undef = .pointer (some ⟨g, 0, none⟩)) (hg : w.heap[g]? = some (.cells cs t fr))
    (hu : P.underlying ty = some d) (hd : (match d with | .struct _ | .array _ _ => true | _ => false) = true) (hi : (P.info? ty).map (·.size) = some cs.size) :
    (results fn tmps).run P w = .ok (.tuple #[.agg cs, tmps.getD u undef]) w := by
  have hp' : tmps[p]?.getD undef = .pointer (some ⟨g, 0, none⟩) := by simpa using hp
  simp [results, h, hp', asAddr, run_loadVar_row w g t ty cs fr d hg hu hd hi]
theorem rd_dsize : (Tryd.prog.info? 45).map (·.size) = some 5 := by kernel_rfl
/-- five cells of a box stored -/
abbrev put5 (W : World) (g : Nat) (c : Nat) (v : Value) (off : Bool) (left : Nat) (keep : Int) : World :=
  ((((W.setCell ⟨g, 0, none⟩ (.int .i64 (c : Int))).setCell ⟨g, 1, none⟩ v).setCell ⟨g, 2, none⟩ (.bool off)).setCell ⟨g, 3, none⟩ (.int .i64 (left : Int))).setCell ⟨g, 4, none⟩ (.int .i64 keep)
theorem put5_vb {W : World} {g : Nat} {t : TypeId} {a0 a1 a2 a3 a4 : Value} (h : Vb W g [a0, a1, a2, a3, a4] t) (c : Nat) (v : Value) (off : Bool) (left : Nat) (keep : Int) : Vb (put5 W g c v off left keep) g (rdC c v off left keep) t :=
  ((((h.set 0 _).set 1 _).set 2 _).set 3 _).set 4 _
theorem put5_below {w W : World} {g : Nat} (h : Below w.heap.size w W) (hg : w.heap.size ≤ g) (c : Nat) (v : Value) (off : Bool) (left : Nat) (keep : Int) : Below w.heap.size w (put5 W g c v off left keep) :=
  ((((h.setCell (p := ⟨g, 0, none⟩) hg _).setCell (p := ⟨g, 1, none⟩) hg _).setCell (p := ⟨g, 2, none⟩) hg _).setCell (p := ⟨g, 3, none⟩) hg _).setCell (p := ⟨g, 4, none⟩) hg _
theorem put5_apart (W : World) (g : Nat) (c : Nat) (v : Value) (off : Bool) (left : Nat) (keep : Int) : Apart [g] W (put5 W g c v off left keep) :=
  ((((Apart.setCell W g 0 _).trans (Apart.setCell _ g 1 _)).trans (Apart.setCell _ g 2 _)).trans (Apart.setCell _ g 3 _)).trans (Apart.setCell _ g 4 _)
theorem Vb.below {w w' : World} {g : Nat} {vs : List Value} {t : TypeId} (h : Vb w g vs t) (hb : Below w.heap.size w w') : Vb w' g vs t := (hb.block _ h.lt).trans h
theorem tot_take (L : vd.Files) (k : Nat) (x : vd.Name × vd.File) (h : L[k]? = some x) : vd.total (L.take (k + 1)) = vd.total (L.take k) + x.2.1.length := by
  unfold vd.total
  rw [List.take_add_one, h]
  simp
theorem tot_take_le (L : vd.Files) (k : Nat) : vd.total (L.take k) ≤ vd.total L := by
  conv => rhs; rw [← List.take_append_drop k L]
  unfold vd.total
  rw [List.map_append, List.sum_append]
  omega
section
variable {w : World} {c cc n left : Nat} {A : Option Addr} {off : Bool} {keep : Int} {L : vd.Files}
set_option maxHeartbeats 4000000 in
theorem rd_size_ (hL : FRow w 0 (.slice A n cc) L) (hn : L.length = n) (hl : n ≤ 1000) (ht : vd.total L ≤ 1000000000) :
    Calls Tryd.prog 53 #[rdV c (.slice A n cc) off left keep] w (fun e w' => e = .returned (.int .i64 (vd.total L : Int)) ∧ Below w.heap.size w w') := by
  obtain ⟨W, hW⟩ : ∃ W, w.alloc (.cells #[.int .i64 (c : Int), .slice A n cc, .bool off, .int .i64 (left : Int), .int .i64 keep] 45) = W := ⟨_, rfl⟩
  have hb : Below w.heap.size w W := by rw [← hW]; exact (Below.refl _ w).alloc (Nat.le_refl _) _
  have hv : Vb W w.heap.size (rdC c (.slice A n cc) off left keep) 45 := by rw [← hW]; exact Vb.new w _ _
  have q1 := hv.cell 1 _ rfl
  have hLW := owns_below hL hb
  have HL := Lib.hid hLW
  have HN := Lib.hid hn
  have HB := Lib.hid hb
  have HT := Lib.hid ht
  unfold rdV
  clear hL hn hb hv hLW ht
  go_enter Tryd.func53, Tryd.ntmps53
  go_wp2
  go_loopw [3, 4] (fun t i wr => ∃ k : Nat, k ≤ n ∧ i = .int .i64 k ∧ W = wr ∧ t = .int .i64 (vd.total (L.take k) : Int)) (fun _ i _ => n - (intOf i).toNat)
  case atStart => exact ⟨0, Nat.zero_le _, rfl, rfl, rfl⟩
  case round =>
    obtain ⟨k, hk, rfl, rfl, rfl⟩ := hrel
    by_cases hlt : k < n
    · obtain ⟨x, hx⟩ : ∃ x, L[k]? = some x := ⟨_, List.getElem?_eq_getElem (by rw [HN.out]; exact hlt)⟩
      obtain ⟨g, rfl, _, k0, k1, k2⟩ := FRow.at_ HL.out k x hx
      have hs := tot_take L k x hx
      have hle := tot_take_le L (k + 1)
      obtain ⟨tk, htk⟩ : ∃ y, vd.total (L.take k) = y := ⟨_, rfl⟩
      have hsz : (crcm.mk x.2.1).size = x.2.1.length := crcm.mk_size _
      obtain ⟨xl, hxl⟩ : ∃ y, x.2.1.length = y := ⟨_, rfl⟩
      rw [htk, hxl] at hs
      rw [hxl] at hsz
      have hsum : tk + xl ≤ 1000000000 := by have := HT.out; omega
      have HS := Lib.hid hs
      rw [htk]
      clear hx hs hle htk hxl k0 k2
      go_wp2
      go_roundw
      case rel => exact ⟨k + 1, by omega, by go_num, by simp, by rw [HS.out]; go_num⟩
      case measure => simp [intOf]; omega
    · obtain rfl : k = n := by omega
      have htk : L.take k = L := by rw [← HN.out]; exact List.take_length
      rw [htk]
      clear htk
      go_wp2
      go_ret
      exact ⟨rfl, HB.out⟩
theorem rd_size (hL : FRow w 0 (.slice A n cc) L) (hn : L.length = n) (hl : n ≤ 1000) (ht : vd.total L ≤ 1000000000) :
    Calls Tryd.prog 27 #[rdV c (.slice A n cc) off left keep] w (fun e w' => e = .returned (.int .i64 (vd.total L : Int)) ∧ Below w.heap.size w w') := by
  obtain ⟨W, hW⟩ : ∃ W, w.alloc (.cells #[.int .i64 (c : Int), .slice A n cc, .bool off, .int .i64 (left : Int), .int .i64 keep] 45) = W := ⟨_, rfl⟩
  have hb : Below w.heap.size w W := by rw [← hW]; exact (Below.refl _ w).alloc (Nat.le_refl _) _
  have hv : Vb W w.heap.size (rdC c (.slice A n cc) off left keep) 45 := by rw [← hW]; exact Vb.new w _ _
  have q0 := hv.cell 0 _ rfl
  have q1 := hv.cell 1 _ rfl
  have q2 := hv.cell 2 _ rfl
  have q3 := hv.cell 3 _ rfl
  have q4 := hv.cell 4 _ rfl
  have hs := rd_size_ (c := c) (off := off) (left := left) (keep := keep) (owns_below hL hb) hn hl ht
  have HB := Lib.hid hb
  unfold rdV at hs ⊢
  clear hL hn hb hv ht
  go_enter Tryd.func27, Tryd.ntmps27
  go_wp2_with fail
  refine hs.mono ?_
  rintro e w1 ⟨rfl, b1⟩
  go_wp2
  go_ret
  exact ⟨rfl, HB.out.trans (b1.mono HB.out.size)⟩
theorem rd_name (m : vd.Name) (hm : m.length ≤ maxLen) : Calls Tryd.prog 95 #[keyV m] w (fun e w' => e = .returned (.bool (vd.good m)) ∧ w' = w) := by
  have hs : (crcm.mk m).size = m.length := crcm.mk_size _
  have hg : vd.good m = (decide (1 ≤ m.length) && decide (m.length ≤ 60)) := by
    unfold vd.good
    congr 1
    by_cases h : m = []
    · subst h; simp
    · have : 1 ≤ m.length := List.length_pos_iff.2 h
      simp [h, this]
  rw [hg]
  obtain ⟨k, hk⟩ : ∃ k, m.length = k := ⟨_, rfl⟩
  rw [hk] at hs hm ⊢
  unfold keyV
  clear hg hk
  have hml : k ≤ 9223372036854775807 := by unfold maxLen at hm; omega
  by_cases h1 : 1 ≤ k
  · have i1 : (1 : Int) ≤ (k : Int) := by omega
    by_cases h2 : k ≤ 60
    · have i2 : (k : Int) ≤ 60 := by omega
      rw [decide_eq_true h1, decide_eq_true h2]
      go_enter Tryd.func95, Tryd.ntmps95
      go_wp2
      go_ret
      exact ⟨rfl, rfl⟩
    · have i2 : ¬ (k : Int) ≤ 60 := by omega
      rw [decide_eq_true h1, decide_eq_false h2]
      go_enter Tryd.func95, Tryd.ntmps95
      go_wp2
      go_ret
      exact ⟨rfl, rfl⟩
  · have i1 : ¬ (1 : Int) ≤ (k : Int) := by omega
    rw [decide_eq_false h1]
    go_enter Tryd.func95, Tryd.ntmps95
    go_wp2
    go_ret
    exact ⟨rfl, rfl⟩
theorem rd_wrong (v : Value) (m : vd.Name) (hm : m.length ≤ maxLen) :
    Calls Tryd.prog 73 #[rdV c v off left keep, keyV m] w (fun e w' => e = .returned (.int .i64 (vd.nameErr off [m] : Nat)) ∧ Below w.heap.size w w') := by
  obtain ⟨W, hW⟩ : ∃ W, w.alloc (.cells #[.int .i64 (c : Int), v, .bool off, .int .i64 (left : Int), .int .i64 keep] 45) = W := ⟨_, rfl⟩
  have hb : Below w.heap.size w W := by rw [← hW]; exact (Below.refl _ w).alloc (Nat.le_refl _) _
  have hv : Vb W w.heap.size (rdC c v off left keep) 45 := by rw [← hW]; exact Vb.new w _ _
  have q2 := hv.cell 2 _ rfl
  have hn := rd_name (w := W) m hm
  have HB := Lib.hid hb
  unfold rdV
  clear hv hb
  cases off with
  | true =>
    have he : vd.nameErr true [m] = 6 := rfl
    rw [he]
    go_enter Tryd.func73, Tryd.ntmps73
    go_wp2
    go_ret
    exact ⟨rfl, HB.out⟩
  | false =>
    cases hg : vd.good m with
    | true =>
      have he : vd.nameErr false [m] = 0 := by simp [vd.nameErr, hg]
      rw [he]
      rw [hg] at hn
      go_enter Tryd.func73, Tryd.ntmps73
      go_wp2_with fail
      refine hn.mono ?_
      rintro e w1 ⟨rfl, rfl⟩
      go_wp2
      go_ret
      exact ⟨rfl, HB.out⟩
    | false =>
      have he : vd.nameErr false [m] = 1 := by simp [vd.nameErr, hg]
      rw [he]
      rw [hg] at hn
      go_enter Tryd.func73, Tryd.ntmps73
      go_wp2_with fail
      refine hn.mono ?_
      rintro e w1 ⟨rfl, rfl⟩
      go_wp2
      go_ret
      exact ⟨rfl, HB.out⟩
set_option maxHeartbeats 4000000 in
theorem rd_burns (hl : left ≤ 9223372036854775807) :
    Calls Tryd.prog 100 #[rdV c (.slice A n cc) off left keep] w (fun e w' => e = .returned (.tuple #[rdV c (.slice A n cc) off (left - 1) keep, .bool (decide (left = 1))]) ∧ Below w.heap.size w w') := by
  obtain ⟨W, hW⟩ : ∃ W, w.alloc (.cells #[.int .i64 (c : Int), .slice A n cc, .bool off, .int .i64 (left : Int), .int .i64 keep] 45) = W := ⟨_, rfl⟩
  have hb : Below w.heap.size w W := by rw [← hW]; exact (Below.refl _ w).alloc (Nat.le_refl _) _
  have hs : W.heap.size = w.heap.size + 1 := by rw [← hW]; exact Array.size_push _
  have hv : Vb W w.heap.size (rdC c (.slice A n cc) off left keep) 45 := by rw [← hW]; exact Vb.new w _ _
  obtain ⟨W2, hW2⟩ : ∃ W2, W.alloc (.cells #[.int .i64 0, .slice none 0 0, .bool false, .int .i64 0, .int .i64 0] 45) = W2 := ⟨_, rfl⟩
  have hb2 : Below W.heap.size W W2 := by rw [← hW2]; exact (Below.refl _ W).alloc (Nat.le_refl _) _
  have hr : Vb W2 W.heap.size [.int .i64 0, .slice none 0 0, .bool false, .int .i64 0, .int .i64 0] 45 := by rw [← hW2]; exact Vb.new W _ _
  have hv2 := hv.below hb2
  have q0 := hv2.cell 0 _ rfl
  have q1 := hv2.cell 1 _ rfl
  have q2 := hv2.cell 2 _ rfl
  have q3 := hv2.cell 3 _ rfl
  have q4 := hv2.cell 4 _ rfl
  have z3 := hv2.free 3
  have r0 := hr.free 0
  have r1 := hr.free 1
  have r2 := hr.free 2
  have r3 := hr.free 3
  have r4 := hr.free 4
  have hB2 := hb.trans (hb2.mono hb.size)
  have HB := Lib.hid hB2
  have HR := Lib.hid hr
  have HV := Lib.hid hv2
  clear hv hb hb2 hB2 hr hv2
  have HS := Lib.hid hs
  have HSL : Hid (w.heap.size ≤ W.heap.size) := Lib.hid (by omega)
  clear hs
  by_cases h0 : left = 0
  · subst h0
    have hf : Vb ((w.alloc (.cells #[.int .i64 (c : Int), .slice A n cc, .bool off, .int .i64 0, .int .i64 keep] 45)).alloc (.cells #[.int .i64 (c : Int), .slice A n cc, .bool off, .int .i64 0, .int .i64 keep] 45)) (w.heap.size + 1) [.int .i64 (c : Int), .slice A n cc, .bool off, .int .i64 0, .int .i64 keep] 45 := by
      have := Vb.new (w.alloc (.cells #[.int .i64 (c : Int), .slice A n cc, .bool off, .int .i64 0, .int .i64 keep] 45)) [.int .i64 (c : Int), .slice A n cc, .bool off, .int .i64 0, .int .i64 keep] 45
      simpa using this
    have hfb : Below w.heap.size w ((w.alloc (.cells #[.int .i64 (c : Int), .slice A n cc, .bool off, .int .i64 0, .int .i64 keep] 45)).alloc (.cells #[.int .i64 (c : Int), .slice A n cc, .bool off, .int .i64 0, .int .i64 keep] 45)) :=
      ((Below.refl _ w).alloc (Nat.le_refl _) _).alloc (by simp) _
    have HF := Lib.hid hf
    have HFB := Lib.hid hfb
    clear hW hW2 HB HR HV HS q0 q1 q2 q3 q4 z3 r0 r1 r2 r3 r4 hf hfb
    unfold rdV
    go_enter Tryd.func100, Tryd.ntmps100
    go_wp2_with fail
    refine bodyPost_ret (results_c1t rfl _ _ (w.heap.size + 1) _ _ (0, 0) _ rfl HF.out Tryd.underlying45 rfl rd_dsize) rfl ?_
    exact ⟨rfl, HFB.out⟩
  · have e0 : ((left : Int) == 0) = false := by simp [h0]
    obtain ⟨l1, hl1⟩ : ∃ l1, left - 1 = l1 := ⟨_, rfl⟩
    have e1 : (left : Int) - 1 = (l1 : Int) := by omega
    have e2 : ((l1 : Int) == 0) = decide (left = 1) := by
      by_cases h : left = 1
      · rw [decide_eq_true h]; simp; omega
      · rw [decide_eq_false h]; simp; omega
    obtain ⟨lb, hlb⟩ : ∃ lb, decide (left = 1) = lb := ⟨_, rfl⟩
    have hw : IntKind.i64.wrap ((left : Int) - 1) = (l1 : Int) := by rw [IntKind.wrap_i64]; omega
    rw [hlb] at e2
    rw [hl1, hlb]
    have hv3 : Vb (W2.setCell ⟨w.heap.size, 3, none⟩ (.int .i64 (l1 : Int))) w.heap.size (rdC c (.slice A n cc) off l1 keep) 45 := HV.out.set 3 _
    have hr3 : Vb (W2.setCell ⟨w.heap.size, 3, none⟩ (.int .i64 (l1 : Int))) W.heap.size [.int .i64 0, .slice none 0 0, .bool false, .int .i64 0, .int .i64 0] 45 := HR.out.apart (Apart.setCell _ _ _ _) (by have := HS.out; simp; omega)
    have hb3 : Below w.heap.size w (W2.setCell ⟨w.heap.size, 3, none⟩ (.int .i64 (l1 : Int))) := HB.out.setCell (p := ⟨w.heap.size, 3, none⟩) (Nat.le_refl _) _
    obtain ⟨W3, hW3⟩ : ∃ W3, W2.setCell ⟨w.heap.size, 3, none⟩ (.int .i64 (l1 : Int)) = W3 := ⟨_, rfl⟩
    rw [hW3] at hv3 hr3 hb3
    have p0 := hv3.cell 0 _ rfl
    have p1 := hv3.cell 1 _ rfl
    have p2 := hv3.cell 2 _ rfl
    have p3 := hv3.cell 3 _ rfl
    have p4 := hv3.cell 4 _ rfl
    have hne1 : ¬ W.heap.size = w.heap.size := by have := HS.out; omega
    have hne2 : ¬ w.heap.size = W.heap.size := by have := HS.out; omega
    have y0 := hr3.cell 0 _ rfl
    have y1 := hr3.cell 1 _ rfl
    have y2 := hr3.cell 2 _ rfl
    have y3 := hr3.cell 3 _ rfl
    have y4 := hr3.cell 4 _ rfl
    have s0 := hr3.free 0
    have s1 := hr3.free 1
    have s2 := hr3.free 2
    have s3 := hr3.free 3
    have s4 := hr3.free 4
    have HF := Lib.hid (put5_vb (show Vb W3.drew _ _ _ from hr3) c (.slice A n cc) off l1 keep)
    have HF2 := Lib.hid (put5_vb hr3 c (.slice A n cc) off l1 keep)
    have HFB := Lib.hid (put5_below (show Below w.heap.size w W3.drew from below_drewN hb3 1) HSL.out (g := W.heap.size) c (.slice A n cc) off l1 keep)
    have HFB2 := Lib.hid (put5_below hb3 HSL.out (g := W.heap.size) c (.slice A n cc) off l1 keep)
    unfold rdV
    clear h0 hl1 hlb hv3 hr3 hb3
    go_enter Tryd.func100, Tryd.ntmps100
    go_wp2_with fail
    go_region
    all_goals go_wp2
    all_goals
      first
      | (refine bodyPost_ret (results_c1t rfl _ _ W.heap.size _ _ (0, 0) _ rfl HF.out Tryd.underlying45 rfl rd_dsize) rfl ?_; exact ⟨rfl, HFB.out⟩)
      | (refine bodyPost_ret (results_c1t rfl _ _ W.heap.size _ _ (0, 0) _ rfl HF2.out Tryd.underlying45 rfl rd_dsize) rfl ?_; exact ⟨rfl, HFB2.out⟩)
end
end
section
open Go Go.RowKit
set_option maxRecDepth 100000

theorem info_rfile : (Tryd.prog.info? 99).map (fun i => (i.zero, i.size, i.bytes)) = some (some (.agg #[.string .empty, .string .empty, .int .i64 0]), 3, 40) := by kernel_rfl
theorem cells_new3 (w : World) (x y z : Value) (e : TypeId) : ∀ j u, [x, y, z][j]? = some u → (w.alloc (.cells #[x, y, z] e)).cell? ((⟨w.heap.size, 0, none⟩ : Addr).add j) = some u := by
  intro j u hj
  have ha : (⟨w.heap.size, 0, none⟩ : Addr).add j = ⟨w.heap.size, j, none⟩ := by unfold Addr.add; split <;> simp_all
  rw [ha]
  exact (Vb.new w [x, y, z] e).cell j u hj
theorem ftake {L : vd.Files} {k : Nat} {x : vd.Name × vd.File} (h : L[k]? = some x) : L.take (k + 1) = L.take k ++ [x] := by rw [List.take_add_one, h]; rfl
theorem fcells1 (x : vd.Name × vd.File) : fcells [x] = [keyV x.1, .string (crcm.mk x.2.1), .int .i64 (x.2.2 : Int)] := rfl
theorem FRow.empty (w : World) : FRow (w.alloc (.cells #[] 99)) w.heap.size (.slice (some ⟨w.heap.size, 0, none⟩) 0 0) [] :=
  ⟨by simp [fcells], .inr ⟨w.heap.size, 0, #[], rfl, Nat.le_refl _, heap_alloc_new w _, Nat.le_refl _, Nat.zero_le _, rfl, by simp [fcells]⟩⟩
theorem FRow.push {w' : World} {B : Nat} {v' : Value} {M : vd.Files} {x : vd.Name × vd.File} (h : w'.ownsRow B 99 3 v' (M.length + 1) (fcells M ++ [keyV x.1, .string (crcm.mk x.2.1), .int .i64 (x.2.2 : Int)])) : FRow w' B v' (M ++ [x]) := by
  unfold FRow
  rw [fcells_append, fcells1, List.length_append]
  exact h
section
variable {w : World} {cc n : Nat} {A : Option Addr} {L : vd.Files}
set_option maxHeartbeats 4000000 in
theorem rd_without (m : vd.Name) (hL : FRow w 0 (.slice A n cc) L) (hn : L.length = n) (hl : n ≤ 1000) :
    Calls Tryd.prog 98 #[.slice A n cc, keyV m] w (fun e w' => ∃ v, e = .returned v ∧ FRow w' w.heap.size v (L.filter fun x => decide (x.1 ≠ m)) ∧ Below w.heap.size w w') := by
  obtain ⟨i0, hi, hz0, hz1, hz2⟩ := info_parts info_rfile
  obtain ⟨W, hW⟩ : ∃ W, w.alloc (.cells #[] 99) = W := ⟨_, rfl⟩
  have hb : Below w.heap.size w W := by rw [← hW]; exact (Below.refl _ w).alloc (Nat.le_refl _) _
  have hE : FRow W w.heap.size (.slice (some ⟨w.heap.size, 0, none⟩) 0 0) [] := by rw [← hW]; exact FRow.empty w
  have HL := Lib.hid hL
  have HN := Lib.hid hn
  have HB := Lib.hid hb
  have HE := Lib.hid hE
  unfold keyV
  clear hL hn hb hE
  go_enter Tryd.func98, Tryd.ntmps98
  go_wp2
  go_loopw [5, 6] (fun v i wr => ∃ (k : Nat) (M : vd.Files), k ≤ n ∧ i = .int .i64 k ∧ M = (L.take k).filter (fun x => decide (x.1 ≠ m)) ∧ FRow wr w.heap.size v M ∧ Below w.heap.size w wr) (fun _ i _ => n - (intOf i).toNat)
  case atStart => exact ⟨0, [], Nat.zero_le _, rfl, rfl, HE.out, HB.out⟩
  case round =>
    obtain ⟨k, M, hk, rfl, hM, hown, hbel⟩ := hrel
    by_cases hlt : k < n
    · obtain ⟨x, hx⟩ : ∃ x, L[k]? = some x := ⟨_, List.getElem?_eq_getElem (by rw [HN.out]; exact hlt)⟩
      obtain ⟨g, rfl, _, k0, k1, k2⟩ := FRow.at_ (owns_below HL.out hbel) k x hx
      have he := mk_toListE x.1 m
      unfold keyV at k0
      have hMl : M.length ≤ n := by
        rw [hM]
        exact Nat.le_trans (List.length_filter_le _ _) (by rw [List.length_take]; omega)
      have HM := Lib.hid hM
      have HTK := Lib.hid (ftake hx)
      have HOWN := Lib.hid hown
      have HBEL := Lib.hid hbel
      clear hx hM hown hbel
      by_cases hxm : x.1 = m
      · rw [decide_eq_true hxm] at he
        have HXM := Lib.hid hxm
        clear hxm
        go_wp2
        go_roundw
        case rel => exact ⟨k + 1, M, by omega, by go_num, by rw [HTK.out, List.filter_append, ← HM.out]; simp [HXM.out], HOWN.out, HBEL.out⟩
        case measure => simp [intOf]; omega
      · rw [decide_eq_false hxm] at he
        have HXM := Lib.hid hxm
        clear hxm
        go_wp2_with (at_builtin; refine wpList_append_own _ rfl _ _ 43 rfl w.heap.size 99 i0 _ 3 40 Tryd.underlying43 hi hz0 hz1 hz2 rfl (by decide) _ _ _ rfl (HOWN.out.alloc _) ⟨wr.heap.size, 0, none⟩ 1 1 [keyV x.1, .string (crcm.mk x.2.1), .int .i64 (x.2.2 : Int)] rfl rfl ?c1 ?c2 ?c3 ?c4 ?c5 ?_)
        case c1 => exact cells_new3 _ _ _ _ _
        case c2 => intro u hu; exact fcells_one [x] u hu
        case c3 => unfold maxLen; omega
        case c4 => omega
        case c5 => have := HBEL.out.size; simp; omega
        intro v' w3 hown' hgrow _
        have hrow : ∀ j, u5.ownBlock = some j → w.heap.size ≤ j := fun j hj => (HOWN.out.lt j hj).1
        have hb3 : Below w.heap.size w w3 := (HBEL.out.alloc HBEL.out.size _).grown hgrow (by have := HBEL.out.size; simp; omega) hrow
        have HO3 := Lib.hid (FRow.push hown')
        have HB3 := Lib.hid hb3
        clear hown' hgrow hb3 hrow
        go_wp2
        go_roundw
        case rel => exact ⟨k + 1, M ++ [x], by omega, by go_num, by rw [HTK.out, List.filter_append, ← HM.out]; simp [HXM.out], HO3.out, HB3.out⟩
        case measure => simp [intOf]; omega
    · obtain rfl : k = n := by omega
      have htk : L.take k = L := by rw [← HN.out]; exact List.take_length
      rw [htk] at hM
      subst hM
      have HOWN := Lib.hid hown
      have HBEL := Lib.hid hbel
      clear hown hbel htk
      go_wp2
      go_ret
      exact ⟨_, rfl, HOWN.out, HBEL.out⟩
set_option maxHeartbeats 8000000 in
theorem rd_with (f : vd.Name × vd.File) (hL : FRow w 0 (.slice A n cc) L) (hn : L.length = n) (hl : n ≤ 1000) :
    Calls Tryd.prog 99 #[.slice A n cc, .agg #[keyV f.1, .string (crcm.mk f.2.1), .int .i64 (f.2.2 : Int)]] w (fun e w' => ∃ v M, e = .returned v ∧ FRow w' w.heap.size v M ∧ M.Perm (f :: L) ∧ Below w.heap.size w w') := by
  obtain ⟨i0, hi, hz0, hz1, hz2⟩ := info_parts info_rfile
  obtain ⟨W, hW⟩ : ∃ W, w.alloc (.cells #[keyV f.1, .string (crcm.mk f.2.1), .int .i64 (f.2.2 : Int)] 99) = W := ⟨_, rfl⟩
  have hb : Below w.heap.size w W := by rw [← hW]; exact (Below.refl _ w).alloc (Nat.le_refl _) _
  have hv : Vb W w.heap.size [keyV f.1, .string (crcm.mk f.2.1), .int .i64 (f.2.2 : Int)] 99 := by rw [← hW]; exact Vb.new w _ _
  have hs : W.heap.size = w.heap.size + 1 := by rw [← hW]; exact Array.size_push _
  obtain ⟨W2, hW2⟩ : ∃ W2, W.alloc (.cells #[] 99) = W2 := ⟨_, rfl⟩
  have hb2 : Below W.heap.size W W2 := by rw [← hW2]; exact (Below.refl _ W).alloc (Nat.le_refl _) _
  have hE : FRow W2 W.heap.size (.slice (some ⟨W.heap.size, 0, none⟩) 0 0) [] := by rw [← hW2]; exact FRow.empty W
  have HL := Lib.hid hL
  have HN := Lib.hid hn
  have HB := Lib.hid hb
  have HB2 := Lib.hid hb2
  have HE := Lib.hid hE
  have HV := Lib.hid hv
  have HS := Lib.hid hs
  unfold keyV at hW ⊢
  clear hL hn hb hE hv hb2 hs
  go_enter Tryd.func99, Tryd.ntmps99
  go_wp2
  go_loopw [5, 6, 7] (fun v ib i wr => ∃ (k : Nat) (is : Bool) (M : vd.Files), k ≤ n ∧ i = .int .i64 k ∧ ib = .bool is ∧ M.Perm (if is then f :: L.take k else L.take k) ∧ FRow wr W.heap.size v M ∧ Below W.heap.size W wr) (fun _ _ i _ => n - (intOf i).toNat)
  case atStart => exact ⟨0, false, [], Nat.zero_le _, rfl, rfl, .refl _, HE.out, HB2.out⟩
  case round =>
    obtain ⟨k, is, M, hk, rfl, rfl, hM, hown, hbel⟩ := hrel
    have y0 := cell_later hbel (HV.out.cell 0 _ rfl)
    have y1 := cell_later hbel (HV.out.cell 1 _ rfl)
    have y2 := cell_later hbel (HV.out.cell 2 _ rfl)
    unfold keyV at y0
    have hMl : M.length ≤ n + 1 := by
      rw [hM.length_eq]
      split
      · rw [List.length_cons, List.length_take]; omega
      · rw [List.length_take]; omega
    have HM := Lib.hid hM
    have HOWN := Lib.hid hown
    have HBEL := Lib.hid hbel
    clear hM hown hbel
    by_cases hlt : k < n
    · obtain ⟨x, hx⟩ : ∃ x, L[k]? = some x := ⟨_, List.getElem?_eq_getElem (by rw [HN.out]; exact hlt)⟩
      obtain ⟨g, rfl, _, k0, k1, k2⟩ := FRow.at_ (owns_below (owns_below HL.out HB.out) HBEL.out) k x hx
      unfold keyV at k0
      have HTK := Lib.hid (ftake hx)
      have HXC : Hid (∀ w', Below w.heap.size w w' → w'.cell? ⟨g, k * 3, none⟩ = some (.string (crcm.mk x.1)) ∧ w'.cell? ⟨g, k * 3 + 1, none⟩ = some (.string (crcm.mk x.2.1)) ∧ w'.cell? ⟨g, k * 3 + 2, none⟩ = some (.int .i64 (x.2.2 : Int))) := Lib.hid fun w' h => by
        obtain ⟨g', e, _, a0, a1, a2⟩ := FRow.at_ (owns_below HL.out h) k x hx
        cases e
        exact ⟨a0, a1, a2⟩
      clear hx
      cases is with
      | true =>
        go_wp2_with fail
        go_quiet (fail)
        obtain ⟨X, hX⟩ : ∃ X, wr.drewN nq = X := ⟨_, rfl⟩
        have bX : Below wr.heap.size wr X := by rw [← hX]; exact below_drewN (Below.refl _ _) _
        have HOX := Lib.hid (owns_below HOWN.out bX)
        have HBX := Lib.hid (HBEL.out.trans (bX.mono HBEL.out.size))
        have k0 := cell_later bX k0
        have k1 := cell_later bX k1
        have k2 := cell_later bX k2
        have y0 := cell_later bX y0
        have y1 := cell_later bX y1
        have y2 := cell_later bX y2
        rw [hX]
        clear hX bX
        go_wp2_with (at_builtin; refine wpList_append_own _ rfl _ _ 43 rfl W.heap.size 99 i0 _ 3 40 Tryd.underlying43 hi hz0 hz1 hz2 rfl (by decide) _ _ _ rfl (HOX.out.alloc _) ⟨X.heap.size, 0, none⟩ 1 1 [keyV x.1, .string (crcm.mk x.2.1), .int .i64 (x.2.2 : Int)] rfl rfl ?c1 ?c2 ?c3 ?c4 ?c5 ?_)
        case c1 => exact cells_new3 _ _ _ _ _
        case c2 => intro u hu; exact fcells_one [x] u hu
        case c3 => unfold maxLen; simp; omega
        case c4 => first | omega | (simp; omega)
        case c5 => have := HBX.out.size; simp; omega
        intro v' w3 hown' hgrow _
        have hb3 : Below W.heap.size W w3 := (HBX.out.alloc HBX.out.size _).grown hgrow (by have := HBX.out.size; simp; omega) (fun j hj => (HOX.out.lt j hj).1)
        have HO_w3 := Lib.hid (FRow.push (x := x) hown')
        have HB_w3 := Lib.hid hb3
        clear hown' hgrow hb3
        go_wp2
        go_roundw
        case rel => exact ⟨k + 1, true, M ++ [x], by omega, by go_num, rfl, by rw [if_pos rfl, HTK.out]; exact HM.out.append_right [x], HO_w3.out, HB_w3.out⟩
        case measure => simp [intOf]; omega
      | false =>
        go_wp2_with fail
        go_quiet (fail)
        obtain ⟨X, hX⟩ : ∃ X, wr.drewN nq = X := ⟨_, rfl⟩
        have bX : Below wr.heap.size wr X := by rw [← hX]; exact below_drewN (Below.refl _ _) _
        have HOX := Lib.hid (owns_below HOWN.out bX)
        have HBX := Lib.hid (HBEL.out.trans (bX.mono HBEL.out.size))
        have k0 := cell_later bX k0
        have k1 := cell_later bX k1
        have k2 := cell_later bX k2
        have y0 := cell_later bX y0
        have y1 := cell_later bX y1
        have y2 := cell_later bX y2
        rw [hX]
        clear hX bX
        generalize hcb : (!Op.bytesLess (crcm.mk x.1).toList (crcm.mk f.1).toList && !(crcm.mk x.1).toList == (crcm.mk f.1).toList) = cb
        clear hcb
        cases cb with
        | false =>
          go_wp2_with (at_builtin; refine wpList_append_own _ rfl _ _ 43 rfl W.heap.size 99 i0 _ 3 40 Tryd.underlying43 hi hz0 hz1 hz2 rfl (by decide) _ _ _ rfl (HOX.out.alloc _) ⟨X.heap.size, 0, none⟩ 1 1 [keyV x.1, .string (crcm.mk x.2.1), .int .i64 (x.2.2 : Int)] rfl rfl ?c1 ?c2 ?c3 ?c4 ?c5 ?_)
          case c1 => exact cells_new3 _ _ _ _ _
          case c2 => intro u hu; exact fcells_one [x] u hu
          case c3 => unfold maxLen; simp; omega
          case c4 => first | omega | (simp; omega)
          case c5 => have := HBX.out.size; simp; omega
          intro v' w3 hown' hgrow _
          have hb3 : Below W.heap.size W w3 := (HBX.out.alloc HBX.out.size _).grown hgrow (by have := HBX.out.size; simp; omega) (fun j hj => (HOX.out.lt j hj).1)
          have HO_w3 := Lib.hid (FRow.push (x := x) hown')
          have HB_w3 := Lib.hid hb3
          clear hown' hgrow hb3
          go_wp2
          go_roundw
          case rel => exact ⟨k + 1, false, M ++ [x], by omega, by go_num, rfl, by rw [if_neg (by simp), HTK.out]; exact HM.out.append_right [x], HO_w3.out, HB_w3.out⟩
          case measure => simp [intOf]; omega
        | true =>
          go_wp2_with (at_builtin; refine wpList_append_own _ rfl _ _ 43 rfl W.heap.size 99 i0 _ 3 40 Tryd.underlying43 hi hz0 hz1 hz2 rfl (by decide) _ _ _ rfl (HOX.out.alloc _) ⟨X.heap.size, 0, none⟩ 1 1 [keyV f.1, .string (crcm.mk f.2.1), .int .i64 (f.2.2 : Int)] rfl rfl ?c1 ?c2 ?c3 ?c4 ?c5 ?_)
          case c1 => exact cells_new3 _ _ _ _ _
          case c2 => intro u hu; exact fcells_one [f] u hu
          case c3 => unfold maxLen; simp; omega
          case c4 => first | omega | (simp; omega)
          case c5 => have := HBX.out.size; simp; omega
          intro v' w3 hown' hgrow _
          have hb3 : Below W.heap.size W w3 := (HBX.out.alloc HBX.out.size _).grown hgrow (by have := HBX.out.size; simp; omega) (fun j hj => (HOX.out.lt j hj).1)
          have HO_w3 := Lib.hid (FRow.push (x := f) hown')
          have HB_w3 := Lib.hid hb3
          clear hown' hgrow hb3
          obtain ⟨x0, x1, x2⟩ := HXC.out w3 (HB.out.trans (HB_w3.out.mono HB.out.size))
          go_wp2_with (at_builtin; refine wpList_append_own _ rfl _ _ 43 rfl W.heap.size 99 i0 _ 3 40 Tryd.underlying43 hi hz0 hz1 hz2 rfl (by decide) _ _ _ rfl (HO_w3.out.alloc _) ⟨w3.heap.size, 0, none⟩ 1 1 [keyV x.1, .string (crcm.mk x.2.1), .int .i64 (x.2.2 : Int)] rfl rfl ?c1 ?c2 ?c3 ?c4 ?c5 ?_)
          case c1 => exact cells_new3 _ _ _ _ _
          case c2 => intro u hu; exact fcells_one [x] u hu
          case c3 => unfold maxLen; simp; omega
          case c4 => first | omega | (simp; omega)
          case c5 => have := HB_w3.out.size; simp; omega
          intro v2 w4 hown' hgrow _
          have hb3 : Below W.heap.size W w4 := (HB_w3.out.alloc HB_w3.out.size _).grown hgrow (by have := HB_w3.out.size; simp; omega) (fun j hj => (HO_w3.out.lt j hj).1)
          have HO_w4 := Lib.hid (FRow.push (M := M ++ [f]) (x := x) (by rw [List.length_append]; exact hown'))
          have HB_w4 := Lib.hid hb3
          clear hown' hgrow hb3
          go_wp2
          go_roundw
          case rel =>
            refine ⟨k + 1, true, M ++ [f] ++ [x], by omega, by go_num, rfl, ?_, HO_w4.out, HB_w4.out⟩
            rw [if_pos rfl, HTK.out]
            exact ((List.perm_append_comm.trans (HM.out.cons f) : (M ++ [f]).Perm (f :: L.take k))).append_right [x]
          case measure => simp [intOf]; omega
    · obtain rfl : k = n := by omega
      have htk : L.take k = L := by rw [← HN.out]; exact List.take_length
      rw [htk] at HM
      clear htk
      cases is with
      | true =>
        go_wp2
        go_ret
        exact ⟨_, rfl, M, owns_mono HOWN.out HB.out.size, HM.out, HB.out.trans (HBEL.out.mono HB.out.size)⟩
      | false =>
        go_wp2_with (at_builtin; refine wpList_append_own _ rfl _ _ 43 rfl W.heap.size 99 i0 _ 3 40 Tryd.underlying43 hi hz0 hz1 hz2 rfl (by decide) _ _ _ rfl (HOWN.out.alloc _) ⟨wr.heap.size, 0, none⟩ 1 1 [keyV f.1, .string (crcm.mk f.2.1), .int .i64 (f.2.2 : Int)] rfl rfl ?c1 ?c2 ?c3 ?c4 ?c5 ?_)
        case c1 => exact cells_new3 _ _ _ _ _
        case c2 => intro u hu; exact fcells_one [f] u hu
        case c3 => unfold maxLen; simp; omega
        case c4 => first | omega | (simp; omega)
        case c5 => have := HBEL.out.size; simp; omega
        intro v' w3 hown' hgrow _
        have hb3 : Below W.heap.size W w3 := (HBEL.out.alloc HBEL.out.size _).grown hgrow (by have := HBEL.out.size; simp; omega) (fun j hj => (HOWN.out.lt j hj).1)
        have HO_w3 := Lib.hid (FRow.push (x := f) hown')
        have HB_w3 := Lib.hid hb3
        clear hown' hgrow hb3
        go_wp2
        go_ret
        exact ⟨_, M ++ [f], rfl, owns_mono HO_w3.out HB.out.size, List.perm_append_comm.trans (HM.out.cons f), HB.out.trans (HB_w3.out.mono HB.out.size)⟩
end
end
section
open Go Go.RowKit
set_option maxRecDepth 100000

def trimX (keep : Int) (x : vd.Name × vd.File) : vd.Name × vd.File := (x.1, vd.trim keep x.2)
theorem trimX_mapF (keep : Int) (L : vd.Files) : L.map (trimX keep) = vd.mapF (fun _ f => vd.trim keep f) L := rfl
theorem fcells_set {P Q : vd.Files} {x : vd.Name × vd.File} {k : Nat} (hk : P.length = k) (s : List UInt8) (i : Nat) :
    ((fcells (P ++ x :: Q)).set (k * 3 + 1) (.string (crcm.mk s))).set (k * 3 + 2) (.int .i64 (i : Int)) = fcells ((P ++ [(x.1, s, i)]) ++ Q) := by
  subst hk
  have hl : (fcells P).length = P.length * 3 := fcells_len P
  rw [show P ++ x :: Q = P ++ ([x] ++ Q) from rfl, fcells_append, fcells_append, fcells_append, fcells_append, fcells1, fcells1]
  rw [List.set_append_right _ _ (by rw [hl]; omega), List.set_append_right _ _ (by rw [hl]; omega), hl, show P.length * 3 + 1 - P.length * 3 = 1 from by omega, show P.length * 3 + 2 - P.length * 3 = 2 from by omega]
  rw [List.append_assoc]
  rfl
theorem row3 {w : World} {B : Nat} {A : Option Addr} {n c : Nat} {M : vd.Files} (h : w.ownsRow B 99 3 (.slice A n c) n (fcells M)) (k : Nat) (x : vd.Name × vd.File) (hx : M[k]? = some x) :
    ∃ g, A = some ⟨g, 0, none⟩ ∧ B ≤ g ∧ w.cell? ⟨g, k * 3, none⟩ = some (keyV x.1) ∧ w.cell? ⟨g, k * 3 + 1, none⟩ = some (.string (crcm.mk x.2.1)) ∧ w.cell? ⟨g, k * 3 + 2, none⟩ = some (.int .i64 (x.2.2 : Int)) ∧ ∀ j, w.frozen? ⟨g, j, none⟩ = false := by
  have hn : M.length = n := by have := h.1; rw [fcells_len] at this; omega
  have h' : FRow w B (.slice A n c) M := by unfold FRow; rw [hn]; exact h
  obtain ⟨g, rfl, h1, h2, h3, h4⟩ := FRow.at_ h' k x hx
  exact ⟨g, rfl, h1, h2, h3, h4, fun j => h.frozenAt j⟩
theorem mid_get {L : vd.Files} {k : Nat} {x : vd.Name × vd.File} (keep : Int) (hx : L[k]? = some x) : ((L.take k).map (trimX keep) ++ L.drop k) = (L.take k).map (trimX keep) ++ x :: L.drop (k + 1) ∧ ((L.take k).map (trimX keep)).length = k := by
  have hlt : k < L.length := by
    by_cases h : k < L.length
    · exact h
    · rw [List.getElem?_eq_none (by omega)] at hx; cases hx
  refine ⟨?_, by rw [List.length_map, List.length_take]; omega⟩
  rw [List.drop_eq_getElem_cons hlt]
  rw [List.getElem?_eq_getElem hlt] at hx
  cases hx
  rfl
section
variable {w : World} {c cc n left : Nat} {A : Option Addr} {off : Bool} {keep0 : Int} {L : vd.Files}
set_option maxHeartbeats 16000000 in
theorem rd_crash (keep : Int) (hL : FRow w 0 (.slice A n cc) L) (hn : L.length = n) (hl : n ≤ 1000) (hsyn : ∀ x ∈ L, x.2.2 ≤ x.2.1.length) (hlen : ∀ x ∈ L, x.2.1.length ≤ 1000000000) :
    Calls Tryd.prog 24 #[rdV c (.slice A n cc) off left keep0, .int .i64 keep] w (fun e w' => ∃ v, e = .returned (rdV c v true left keep0) ∧ FRow w' w.heap.size v (vd.mapF (fun _ f => vd.trim keep f) L) ∧ Below w.heap.size w w') := by
  obtain ⟨i0, hi, hz0, hz1, hz2⟩ := info_parts info_rfile
  obtain ⟨W, hW⟩ : ∃ W, w.alloc (.cells #[.int .i64 (c : Int), .slice A n cc, .bool off, .int .i64 (left : Int), .int .i64 keep0] 45) = W := ⟨_, rfl⟩
  have hb : Below w.heap.size w W := by rw [← hW]; exact (Below.refl _ w).alloc (Nat.le_refl _) _
  have hs : W.heap.size = w.heap.size + 1 := by rw [← hW]; exact Array.size_push _
  have hv : Vb W w.heap.size (rdC c (.slice A n cc) off left keep0) 45 := by rw [← hW]; exact Vb.new w _ _
  obtain ⟨W2, hW2⟩ : ∃ W2, W.alloc (.cells #[.int .i64 0, .slice none 0 0, .bool false, .int .i64 0, .int .i64 0] 45) = W2 := ⟨_, rfl⟩
  have hb2 : Below W.heap.size W W2 := by rw [← hW2]; exact (Below.refl _ W).alloc (Nat.le_refl _) _
  have hs2 : W2.heap.size = W.heap.size + 1 := by rw [← hW2]; exact Array.size_push _
  have hr : Vb W2 W.heap.size [.int .i64 0, .slice none 0 0, .bool false, .int .i64 0, .int .i64 0] 45 := by rw [← hW2]; exact Vb.new W _ _
  have hv2 := hv.below hb2
  obtain ⟨W3, hW3⟩ : ∃ W3, W2.alloc (.cells #[] 99) = W3 := ⟨_, rfl⟩
  have hb3 : Below W2.heap.size W2 W3 := by rw [← hW3]; exact (Below.refl _ W2).alloc (Nat.le_refl _) _
  have hE : FRow W3 W2.heap.size (.slice (some ⟨W2.heap.size, 0, none⟩) 0 0) [] := by rw [← hW3]; exact FRow.empty W2
  have q1 := (hv2.below hb3).cell 1 _ rfl
  have hB2 := hb.trans (hb2.mono hb.size)
  have HLL : Hid (∀ w', Below w.heap.size w w' → FRow w' 0 (.slice A n cc) L) := Lib.hid fun w' h => owns_below hL h
  have hcells : 0 < n → ∃ ad, A = some ad ∧ ∀ j u, (fcells L)[j]? = some u → W3.cell? (ad.add j) = some u := by
    intro h0
    have hx := HLL.out W3 (hB2.trans (hb3.mono hB2.size))
    rcases hx.2 with ⟨e, _⟩ | ⟨g, cap, cur, e, _⟩
    · injection e with e1 e2 e3; omega
    · injection e with e1 e2 e3
      subst e1
      exact ⟨_, rfl, hx.cells (g := g) rfl⟩
  have HB2 := Lib.hid hB2
  have HB3 := Lib.hid hb3
  have HR := Lib.hid hr
  have HV := Lib.hid hv2
  have HS := Lib.hid (And.intro hs hs2)
  have HE := Lib.hid hE
  have HC := Lib.hid hcells
  have HN := Lib.hid hn
  have HSYN := Lib.hid hsyn
  have HLEN := Lib.hid hlen
  clear hb hb2 hv hv2 hr hs hs2 hE hcells hn hsyn hlen hL hB2 hb3
  unfold rdV
  go_enter Tryd.func24, Tryd.ntmps24
  go_wp2_with (at_builtin; refine wpList_app_opt _ rfl _ _ 43 rfl W2.heap.size 99 i0 _ 3 40 Tryd.underlying43 hi hz0 hz1 hz2 rfl (by decide) _ _ _ rfl HE.out A n cc (fcells L) rfl ?c1 ?c2 ?c3 ?c4 ?c5 ?c6 ?_)
  case c1 => rw [fcells_len, HN.out]
  case c2 => exact HC.out
  case c3 => exact fcells_one L
  case c4 => unfold maxLen; simp; omega
  case c5 => simp; omega
  case c6 => exact HB3.out.size
  intro v4 w4 own4 hgr
  have own4 : w4.ownsRow W2.heap.size 99 3 v4 n (fcells L) := by
    have h := own4
    simp only [fcells, List.flatMap_nil, List.nil_append] at h
    exact h
  obtain ⟨A4, c4, rfl⟩ : ∃ A c, v4 = .slice A n c := by
    rcases own4.2 with ⟨rfl, h0⟩ | ⟨g, cap, cur, rfl, _⟩
    · exact ⟨none, 0, by rw [h0]⟩
    · exact ⟨_, _, rfl⟩
  have hb4 : Below W2.heap.size W2 w4 := HB3.out.grown hgr HB3.out.size (fun j hj => by cases hj; exact Nat.le_refl _)
  have HO4 := Lib.hid own4
  have HB4 := Lib.hid hb4
  clear own4 hgr hb4
  go_wp2
  go_loopw [6] (fun i wr => ∃ k : Nat, k ≤ n ∧ i = .int .i64 k ∧ wr.ownsRow W2.heap.size 99 3 (.slice A4 n c4) n (fcells ((L.take k).map (trimX keep) ++ L.drop k)) ∧ Below W2.heap.size W2 wr) (fun i _ => n - (intOf i).toNat)
  case atStart => exact ⟨0, Nat.zero_le _, rfl, HO4.out, HB4.out⟩
  case round =>
    obtain ⟨k, hk, rfl, hown, hbel⟩ := hrel
    have HOWN := Lib.hid hown
    have HBEL := Lib.hid hbel
    clear hown hbel
    by_cases hlt : k < n
    · obtain ⟨x, hx⟩ : ∃ x, L[k]? = some x := ⟨_, List.getElem?_eq_getElem (by rw [HN.out]; exact hlt)⟩
      obtain ⟨hmid, hml⟩ := mid_get keep hx
      have hgt : ((L.take k).map (trimX keep) ++ L.drop k)[k]? = some x := by rw [hmid, List.getElem?_append_right (by omega), hml]; simp
      obtain ⟨g, rfl, hgb, k0, k1, k2, kf⟩ := row3 HOWN.out k x hgt
      have hsyn := HSYN.out x (List.mem_of_getElem? hx)
      have hlen := HLEN.out x (List.mem_of_getElem? hx)
      have hstay := vd.stay_le keep x.2
      obtain ⟨LL, hL⟩ : ∃ L, x.2.1.length = L := ⟨_, rfl⟩
      obtain ⟨Y, hY⟩ : ∃ Y, x.2.2 = Y := ⟨_, rfl⟩
      obtain ⟨K, hK⟩ : ∃ K, vd.stay keep x.2 = K := ⟨_, rfl⟩
      have hsz : (crcm.mk x.2.1).size = LL := by rw [crcm.mk_size, hL]
      have hrem : 0 ≤ keep → keep.tmod ((LL - Y + 1 : Nat) : Int) = (K : Int) := by
        intro h0
        rw [Int.tmod_eq_emod_of_nonneg h0, ← hK]
        have h2 := Int.emod_nonneg keep (b := ((x.2.1.length - x.2.2 + 1 : Nat) : Int)) (by omega)
        unfold vd.stay
        rw [if_pos h0, hL, hY] at *
        omega
      have hk0 : ¬ 0 ≤ keep → K = 0 := by
        intro h0
        rw [← hK]; unfold vd.stay; rw [if_neg h0]
      have htrim : trimX keep x = (x.1, x.2.1.take (Y + K), Y + K) := by unfold trimX vd.trim; rw [hK, hY]
      simp only [hL, hY, hK] at hsyn hlen hstay k2
      obtain ⟨N, hN⟩ : ∃ N, Y + K = N := ⟨_, rfl⟩
      rw [hN] at htrim
      obtain ⟨Z, hZ⟩ : ∃ Z, LL - Y + 1 = Z := ⟨_, rfl⟩
      rw [hZ] at hrem
      have e1 : IntKind.i64.wrap ((LL : Int) - (Y : Int)) = (LL : Int) - Y := by rw [IntKind.wrap_i64]; omega
      have e2 : IntKind.i64.wrap ((LL : Int) - (Y : Int) + 1) = (Z : Int) := by rw [IntKind.wrap_i64]; omega
      have e3 : IntKind.i64.wrap ((Y : Int) + (K : Int)) = (N : Int) := by rw [IntKind.wrap_i64]; omega
      have hex : (crcm.mk x.2.1).extract 0 N = crcm.mk (x.2.1.take N) := by rw [Lib.extract_eq]; show (⟨((crcm.mk x.2.1).data.toList.drop 0 |>.take (N - 0)).toArray⟩ : ByteArray) = _; rw [crcm.mk_toList]; rfl
      have hmin : min N LL = N := by omega
      have hsz2 : (crcm.mk (x.2.1.take N)).size = N := by rw [crcm.mk_size, List.length_take]; omega
      have hnext : ∀ w' : World, w'.ownsRow W2.heap.size 99 3 (.slice (some ⟨g, 0, none⟩) n c4) n (((fcells ((L.take k).map (trimX keep) ++ L.drop k)).set (k * 3 + 1) (.string (crcm.mk (x.2.1.take N)))).set (k * 3 + 2) (.int .i64 (N : Int))) → w'.ownsRow W2.heap.size 99 3 (.slice (some ⟨g, 0, none⟩) n c4) n (fcells ((L.take (k + 1)).map (trimX keep) ++ L.drop (k + 1))) := by
        intro w' h
        rw [hmid, fcells_set hml, ← htrim] at h
        rw [ftake hx, List.map_append]
        exact h
      have HNEXT := Lib.hid hnext
      have HN2 : N ≤ LL := by omega
      have HGB := Lib.hid hgb
      clear hx hmid hml hgt htrim hK hY hL hnext hgb
      by_cases h0 : 0 ≤ keep
      · have hr := hrem h0
        clear hrem hk0
        go_wp2_with fail
        go_quiet (fail)
        obtain ⟨X, hX⟩ : ∃ X, wr.drewN nq = X := ⟨_, rfl⟩
        have bX : Below wr.heap.size wr X := by rw [← hX]; exact below_drewN (Below.refl _ _) _
        have HOX := Lib.hid (owns_below HOWN.out bX)
        have HBX := Lib.hid (HBEL.out.trans (bX.mono HBEL.out.size))
        have k0 := cell_later bX k0
        have k1 := cell_later bX k1
        have k2 := cell_later bX k2
        have f1 := HOX.out.frozenAt (k * 3 + 1)
        have f2 := HOX.out.frozenAt (k * 3 + 2)
        rw [hX]
        clear hX bX kf
        go_wp2_with fail
        go_region
        all_goals go_wp2
        all_goals go_roundw
        case rel => exact ⟨k + 1, by omega, by go_num, (HNEXT.out _ (((HOX.out.stored (k * 3 + 1) _).1.stored (k * 3 + 2) _).1)).drew, below_drewN ((HBX.out.setCell (p := ⟨g, k * 3 + 1, none⟩) HGB.out _).setCell (p := ⟨g, k * 3 + 2, none⟩) HGB.out _) 1⟩
        case measure => simp [intOf]; omega
      · obtain rfl := hk0 h0
        obtain rfl : Y = N := by omega
        clear hrem hk0
        go_wp2_with fail
        go_quiet (fail)
        obtain ⟨X, hX⟩ : ∃ X, wr.drewN nq = X := ⟨_, rfl⟩
        have bX : Below wr.heap.size wr X := by rw [← hX]; exact below_drewN (Below.refl _ _) _
        have HOX := Lib.hid (owns_below HOWN.out bX)
        have HBX := Lib.hid (HBEL.out.trans (bX.mono HBEL.out.size))
        have k0 := cell_later bX k0
        have k1 := cell_later bX k1
        have k2 := cell_later bX k2
        have f1 := HOX.out.frozenAt (k * 3 + 1)
        have f2 := HOX.out.frozenAt (k * 3 + 2)
        rw [hX]
        clear hX bX kf
        go_wp2_with fail
        go_region
        all_goals go_wp2
        all_goals go_roundw
        case rel => exact ⟨k + 1, by omega, by go_num, (HNEXT.out _ (((HOX.out.stored (k * 3 + 1) _).1.stored (k * 3 + 2) _).1)).drew, below_drewN ((HBX.out.setCell (p := ⟨g, k * 3 + 1, none⟩) HGB.out _).setCell (p := ⟨g, k * 3 + 2, none⟩) HGB.out _) 1⟩
        case measure => simp [intOf]; omega
    · obtain rfl : k = n := by omega
      have htk : (L.take k).map (trimX keep) ++ L.drop k = vd.mapF (fun _ f => vd.trim keep f) L := by
        rw [List.take_of_length_le (by rw [HN.out]; exact Nat.le_refl _), List.drop_of_length_le (by rw [HN.out]; exact Nat.le_refl _), List.append_nil]; rfl
      have HTK := Lib.hid htk
      have hvr := HV.out.below HBEL.out
      have hrr := HR.out.below HBEL.out
      have hne : ¬ W.heap.size = w.heap.size := by have := HS.out.1; omega
      have hne2 : ¬ w.heap.size = W.heap.size := by have := HS.out.1; omega
      have p0 := hvr.cell 0 _ rfl
      have p1 := hvr.cell 1 _ rfl
      have p2 := hvr.cell 2 _ rfl
      have p3 := hvr.cell 3 _ rfl
      have p4 := hvr.cell 4 _ rfl
      have y0 := hrr.cell 0 _ rfl
      have y1 := hrr.cell 1 _ rfl
      have y2 := hrr.cell 2 _ rfl
      have y3 := hrr.cell 3 _ rfl
      have y4 := hrr.cell 4 _ rfl
      have g1 := hvr.free 1
      have g2 := hvr.free 2
      have s0 := hrr.free 0
      have s1 := hrr.free 1
      have s2 := hrr.free 2
      have s3 := hrr.free 3
      have s4 := hrr.free 4
      have hB9 : Below w.heap.size w wr := HB2.out.trans (HBEL.out.mono HB2.out.size)
      have hB10 := (hB9.setCell (p := ⟨w.heap.size, 1, none⟩) (Nat.le_refl _) (.slice A4 k c4)).setCell (p := ⟨w.heap.size, 2, none⟩) (Nat.le_refl _) (.bool true)
      have hB11 := put5_below hB10 (g := W.heap.size) (by have := HS.out.1; omega) c (.slice A4 k c4) true left keep0
      have hr9 : Vb ((wr.setCell ⟨w.heap.size, 1, none⟩ (.slice A4 k c4)).setCell ⟨w.heap.size, 2, none⟩ (.bool true)) W.heap.size [.int .i64 0, .slice none 0 0, .bool false, .int .i64 0, .int .i64 0] 45 :=
        (hrr.apart (Apart.setCell wr w.heap.size 1 _) (by simpa using hne)).apart (Apart.setCell _ w.heap.size 2 _) (by simpa using hne)
      have HF := Lib.hid (put5_vb hr9 c (.slice A4 k c4) true left keep0)
      have hk1 : w.heap.size < W2.heap.size := by have := HS.out; omega
      have hk2 : W.heap.size < W2.heap.size := by have := HS.out; omega
      have ho9 := ownsRow_setCell_below (ownsRow_setCell_below HOWN.out (a := ⟨w.heap.size, 1, none⟩) hk1 (.slice A4 k c4)) (a := ⟨w.heap.size, 2, none⟩) hk1 (.bool true)
      have ho10 := ownsRow_setCell_below (ownsRow_setCell_below (ownsRow_setCell_below (ownsRow_setCell_below (ownsRow_setCell_below ho9 (a := ⟨W.heap.size, 0, none⟩) hk2 (.int .i64 (c : Int))) (a := ⟨W.heap.size, 1, none⟩) hk2 (.slice A4 k c4)) (a := ⟨W.heap.size, 2, none⟩) hk2 (.bool true)) (a := ⟨W.heap.size, 3, none⟩) hk2 (.int .i64 (left : Int))) (a := ⟨W.heap.size, 4, none⟩) hk2 (.int .i64 keep0)
      have HO10 := Lib.hid ho10
      have HB11 := Lib.hid hB11
      have HLE : Hid (w.heap.size ≤ W2.heap.size) := Lib.hid (by omega)
      clear hvr hrr hB9 hB10 hB11 hr9 ho9 ho10 hk1 hk2 htk
      go_wp2_with fail
      refine bodyPost_ret (results_c1 rfl _ _ W.heap.size _ _ (0, 0) _ rfl HF.out Tryd.underlying45 rfl rd_dsize) rfl ?_
      refine ⟨.slice A4 k c4, rfl, ?_, HB11.out⟩
      have h := owns_mono HO10.out HLE.out
      rw [HTK.out] at h
      unfold FRow
      rw [show (vd.mapF (fun _ f => vd.trim keep f) L).length = k from by unfold vd.mapF; rw [List.length_map]; exact HN.out]
      exact h
end
end
section
open Go Go.RowKit
set_option maxRecDepth 100000

def rdD (d : vd.Disk) (v : Value) : Value := rdV d.cap v d.off d.left d.keep
/-- what Crash wants of the files -/
structure Tidy (L : vd.Files) : Prop where
  len : L.length ≤ 1000
  syn : ∀ x ∈ L, x.2.2 ≤ x.2.1.length
  low : ∀ x ∈ L, x.2.1.length ≤ 1000000000
theorem tmod2 (k : Int) : k.tmod 2 = 0 ∨ k.tmod 2 = 1 ∨ k.tmod 2 = -1 := by
  rcases Int.le_total 0 k with h | h
  · have := Int.tmod_nonneg 2 h
    have := Int.tmod_lt_of_pos k (b := 2) (by omega)
    omega
  · have h1 := Int.neg_tmod (-k) 2
    rw [Int.neg_neg] at h1
    have := Int.tmod_nonneg 2 (show 0 ≤ -k by omega)
    have := Int.tmod_lt_of_pos (-k) (b := 2) (by omega)
    omega
theorem done_not {c left : Nat} {off : Bool} {keep : Int} {L M : vd.Files} {a : Bool} (h : ¬ left = 1) : vd.done ⟨c, L, off, left, keep⟩ M a = ⟨c, M, off, left - 1, keep⟩ := by
  unfold vd.done vd.goes
  simp [h, vd.less]
theorem done_go {c left : Nat} {off : Bool} {keep : Int} {L M : vd.Files} {a : Bool} (h : left = 1) (hg : a = true ∨ keep.tmod 2 ≠ 0) : vd.done ⟨c, L, off, left, keep⟩ M a = ⟨c, vd.mapF (fun _ f => vd.trim keep f) M, true, left - 1, keep⟩ := by
  unfold vd.done vd.goes
  rcases hg with rfl | hg
  · simp [h, vd.less, vd.crash]
  · simp [h, vd.less, vd.crash, hg]
theorem done_stay {c left : Nat} {off : Bool} {keep : Int} {L M : vd.Files} {a : Bool} (h : left = 1) (ha : a = false) (hk : keep.tmod 2 = 0) : vd.done ⟨c, L, off, left, keep⟩ M a = ⟨c, vd.mapF (fun _ f => vd.trim keep f) L, true, left - 1, keep⟩ := by
  unfold vd.done vd.goes
  simp [h, vd.less, vd.crash, ha, hk]
theorem Vb.five {W : World} {g : Nat} {t : TypeId} {a0 a1 a2 a3 a4 : Value} (h : Vb W g [a0, a1, a2, a3, a4] t) :
    W.cell? ⟨g, 0, none⟩ = some a0 ∧ W.cell? ⟨g, 1, none⟩ = some a1 ∧ W.cell? ⟨g, 2, none⟩ = some a2 ∧ W.cell? ⟨g, 3, none⟩ = some a3 ∧ W.cell? ⟨g, 4, none⟩ = some a4 ∧
    W.frozen? ⟨g, 0, none⟩ = false ∧ W.frozen? ⟨g, 1, none⟩ = false ∧ W.frozen? ⟨g, 2, none⟩ = false ∧ W.frozen? ⟨g, 3, none⟩ = false ∧ W.frozen? ⟨g, 4, none⟩ = false :=
  ⟨h.cell 0 _ rfl, h.cell 1 _ rfl, h.cell 2 _ rfl, h.cell 3 _ rfl, h.cell 4 _ rfl, h.free 0, h.free 1, h.free 2, h.free 3, h.free 4⟩
/-- the boxes of done -/
structure DBox (w W2 : World) (b1 r : Nat) (v1 v2 : List Value) : Prop where
  below : Below w.heap.size w W2
  h1 : w.heap.size < b1
  h2 : b1 < r
  h3 : r < W2.heap.size
  one : Vb W2 w.heap.size v1 45
  two : Vb W2 b1 v2 45
  res : Vb W2 r [.int .i64 0, .slice none 0 0, .bool false, .int .i64 0, .int .i64 0] 45
section
variable {w : World} {c cc n left m dd : Nat} {A B : Option Addr} {off : Bool} {keep : Int} {L M : vd.Files}
set_option maxHeartbeats 16000000 in
theorem rd_done (always : Bool) (hL : FRow w 0 (.slice A n cc) L) (hn : L.length = n) (hM : FRow w 0 (.slice B m dd) M) (hm : M.length = m) (tL : Tidy L) (tM : Tidy M) (hl : left ≤ 9223372036854775807) :
    Calls Tryd.prog 79 #[rdV c (.slice A n cc) off left keep, rdV c (.slice B m dd) off left keep, .bool always] w (fun e w' => ∃ v, e = .returned (.tuple #[rdD (vd.done ⟨c, L, off, left, keep⟩ M always) v, .int .i64 (vd.doneE ⟨c, L, off, left, keep⟩ : Nat)]) ∧ FRow w' 0 v (vd.done ⟨c, L, off, left, keep⟩ M always).files ∧ Below w.heap.size w w') := by
  obtain ⟨W, hW⟩ : ∃ W, w.alloc (.cells #[.int .i64 (c : Int), .slice A n cc, .bool off, .int .i64 (left : Int), .int .i64 keep] 45) = W := ⟨_, rfl⟩
  obtain ⟨W1, hW1⟩ : ∃ W1, W.alloc (.cells #[.int .i64 (c : Int), .slice B m dd, .bool off, .int .i64 (left : Int), .int .i64 keep] 45) = W1 := ⟨_, rfl⟩
  obtain ⟨W2, hW2⟩ : ∃ W2, W1.alloc (.cells #[.int .i64 0, .slice none 0 0, .bool false, .int .i64 0, .int .i64 0] 45) = W2 := ⟨_, rfl⟩
  have hbx : DBox w W2 W.heap.size W1.heap.size (rdC c (.slice A n cc) off left keep) (rdC c (.slice B m dd) off left keep) := by
    have hb : Below w.heap.size w W := by rw [← hW]; exact (Below.refl _ w).alloc (Nat.le_refl _) _
    have hb1 : Below W.heap.size W W1 := by rw [← hW1]; exact (Below.refl _ W).alloc (Nat.le_refl _) _
    have hb2 : Below W1.heap.size W1 W2 := by rw [← hW2]; exact (Below.refl _ W1).alloc (Nat.le_refl _) _
    have hs : W.heap.size = w.heap.size + 1 := by rw [← hW]; exact Array.size_push _
    have hs1 : W1.heap.size = W.heap.size + 1 := by rw [← hW1]; exact Array.size_push _
    have hs2 : W2.heap.size = W1.heap.size + 1 := by rw [← hW2]; exact Array.size_push _
    have hv : Vb W w.heap.size (rdC c (.slice A n cc) off left keep) 45 := by rw [← hW]; exact Vb.new w _ _
    have hv1 : Vb W1 W.heap.size (rdC c (.slice B m dd) off left keep) 45 := by rw [← hW1]; exact Vb.new W _ _
    have hr : Vb W2 W1.heap.size [.int .i64 0, .slice none 0 0, .bool false, .int .i64 0, .int .i64 0] 45 := by rw [← hW2]; exact Vb.new W1 _ _
    exact ⟨(hb.trans (hb1.mono hb.size)).trans (hb2.mono (by omega)), by omega, by omega, by omega, (hv.below hb1).below hb2, hv1.below hb2, hr⟩
  obtain ⟨b0, hb0⟩ : ∃ x, w.heap.size = x := ⟨_, rfl⟩
  obtain ⟨b1, hb1⟩ : ∃ x, W.heap.size = x := ⟨_, rfl⟩
  obtain ⟨r, hr⟩ : ∃ x, W1.heap.size = x := ⟨_, rfl⟩
  rw [hb1, hr] at hbx
  have q0 := hbx.one.cell 0 _ rfl
  have q1 := hbx.one.cell 1 _ rfl
  have q2 := hbx.one.cell 2 _ rfl
  have q3 := hbx.one.cell 3 _ rfl
  have q4 := hbx.one.cell 4 _ rfl
  rw [hb0] at q0 q1 q2 q3 q4
  obtain ⟨l1, hl1⟩ : ∃ l1, left - 1 = l1 := ⟨_, rfl⟩
  have hbu := rd_burns (w := W2) (c := c) (A := A) (n := n) (cc := cc) (off := off) (keep := keep) hl
  rw [hl1] at hbu
  have HBX := Lib.hid hbx
  have HL := Lib.hid hL
  have HM := Lib.hid hM
  have HN := Lib.hid hn
  have HMM := Lib.hid hm
  have HTL := Lib.hid tL
  have HTM := Lib.hid tM
  have HL1 := Lib.hid hl1
  clear hbx hL hM hn hm tL tM hl1
  unfold rdV at hbu ⊢
  go_enter Tryd.func79, Tryd.ntmps79
  go_wp2_with fail
  refine hbu.mono ?_
  rintro e w3 ⟨rfl, b3⟩
  have hB3 := HBX.out.below.trans (b3.mono HBX.out.below.size)
  have hv0 : Vb w3 b0 (rdC c (.slice A n cc) off left keep) 45 := by rw [← hb0]; exact HBX.out.one.below b3
  have hv1 := HBX.out.two.below b3
  have hvr := HBX.out.res.below b3
  have h01 : b0 < b1 := by rw [← hb0]; exact HBX.out.h1
  have h12 : b1 < r := HBX.out.h2
  obtain ⟨p0, p1, p2, p3, p4, z0, z1, z2, z3, z4⟩ := hv0.five
  obtain ⟨y0, y1, y2, y3, y4, t0, t1, t2, t3, t4⟩ := hv1.five
  obtain ⟨u0, u1, u2, u3, u4, s0, s1, s2, s3, s4⟩ := hvr.five
  have n1 : ¬ b0 = b1 := by omega
  have n2 : ¬ b1 = b0 := by omega
  have n3 : ¬ b0 = r := by omega
  have n4 : ¬ r = b0 := by omega
  have n5 : ¬ b1 = r := by omega
  have n6 : ¬ r = b1 := by omega
  have HX := Lib.hid (And.intro hb0 (And.intro h01 h12))
  clear q0 q1 q2 q3 q4 hbu h01 h12
  have HV0 := Lib.hid hv0
  have HV1 := Lib.hid hv1
  have HVR := Lib.hid hvr
  have HB3 := Lib.hid hB3
  clear hv0 hv1 hvr hB3


  have hB3 := HB3.out
  have hB4 := put5_below hB3 (g := b0) (by omega) c (.slice A n cc) off l1 keep
  have hX1 := put5_apart w3 b0 c (.slice A n cc) off l1 keep
  have hv0a := put5_vb HV0.out c (.slice A n cc) off l1 keep
  obtain ⟨X1, hX1e⟩ : ∃ X1, put5 w3 b0 c (.slice A n cc) off l1 keep = X1 := ⟨_, rfl⟩
  rw [hX1e] at hB4 hX1 hv0a
  have hX2 := Apart.setCell X1 b1 3 (.int .i64 (l1 : Int))
  have hB5 := hB4.setCell (p := ⟨b1, 3, none⟩) (by have := HX.out; show w.heap.size ≤ b1; omega) (.int .i64 (l1 : Int))
  have hv1b := (HV1.out.apart hX1 (by simp; omega)).set 3 (.int .i64 (l1 : Int))
  have hvrb := (HVR.out.apart hX1 (by simp; omega)).apart hX2 (by simp; omega)
  have hv0b := hv0a.apart hX2 (by simp; omega)
  obtain ⟨X2, hX2e⟩ : ∃ X2, X1.setCell ⟨b1, 3, none⟩ (.int .i64 (l1 : Int)) = X2 := ⟨_, rfl⟩
  rw [hX2e] at hB5 hv1b hvrb hv0b
  have HR2 := Lib.hid hvrb
  have HB5 := Lib.hid hB5
  have HV12 := Lib.hid hv1b
  have HV02 := Lib.hid hv0b
  have HE := Lib.hid (And.intro hX1e hX2e)
  have hbr : w.heap.size ≤ r := by have := HX.out; omega
  have HBR := Lib.hid hbr
  have hbb : w.heap.size ≤ b1 := by have := HX.out; omega
  have HBB := Lib.hid hbb
  clear hB3 hB4 hX1 hX1e hX2 hB5 hv1b hvrb hX2e hbr hb0 hv0a hv0b hbb
  by_cases h1 : left = 1
  · have e1 : decide (left = 1) = true := decide_eq_true h1
    have hE : vd.doneE ⟨c, L, off, left, keep⟩ = 6 := if_pos h1
    rw [e1]
    have HDE := Lib.hid hE
    have HH1 := Lib.hid h1
    clear h1 e1 hE
    have hcs : (always = true) ∨ (always = false ∧ keep.tmod 2 = 1) ∨ (always = false ∧ keep.tmod 2 = -1) ∨ (always = false ∧ keep.tmod 2 = 0) := by
      rcases tmod2 keep with h | h | h <;> cases always <;> simp [h]
    have hcr := rd_crash (c := c) (off := off) (left := l1) (keep0 := keep) keep (owns_below HM.out HB5.out) HMM.out (by have := HTM.out.len; rw [HMM.out] at this; exact this) HTM.out.syn HTM.out.low
    unfold rdV at hcr
    rcases hcs with rfl | ⟨rfl, hk⟩ | ⟨rfl, hk⟩ | ⟨rfl, hk⟩
    · have HG := Lib.hid (done_go (c := c) (off := off) (L := L) (M := M) (a := true) HH1.out (keep := keep) (.inl rfl))
      go_wp2_with fail
      obtain ⟨hE1, hE2⟩ := HE.out
      unfold put5 at hE1
      rw [hE1, hE2]
      clear hE1 hE2 p0 p1 p2 p3 p4 z0 z1 z2 z3 z4 y0 y1 y2 y3 y4 t0 t1 t2 t3 t4 u0 u1 u2 u3 u4 s0 s1 s2 s3 s4
      refine hcr.mono ?_
      rintro e w9 ⟨v, rfl, ho, b9⟩
      obtain ⟨A9, c9, rfl⟩ := ho.form
      obtain ⟨n9, hn9⟩ : ∃ x, (vd.mapF (fun _ f => vd.trim keep f) M).length = x := ⟨_, rfl⟩
      rw [hn9] at ho ⊢
      obtain ⟨v, hv⟩ : ∃ v, Value.slice A9 n9 c9 = v := ⟨_, rfl⟩
      rw [hv] at ho
      have hr9 := HR2.out.below b9
      have HF := Lib.hid (And.intro (put5_vb hr9 c v true l1 keep) (put5_below (HB5.out.trans ((b9).mono HB5.out.size)) HBR.out c v true l1 keep))
      have HO := Lib.hid ((owns_apart ho.low (put5_apart w9 r c v true l1 keep) (by
        intro g hg
        have := (ho.lt g hg).1
        simp
        have := HR2.out.lt
        omega)))
      obtain ⟨u0, u1, u2, u3, u4, s0, s1, s2, s3, s4⟩ := hr9.five
      clear hr9 ho b9 hn9
      subst hv
      go_wp2_with fail
      refine bodyPost_ret (results_c1t rfl _ _ r _ _ (0, 0) _ rfl HF.out.1 Tryd.underlying45 rfl rd_dsize) rfl ?_
      rw [HDE.out, HG.out]
      refine ⟨_, ?_, HO.out, HF.out.2⟩
      unfold rdD rdC; rw [HL1.out]; rfl
    · have HG := Lib.hid (done_go (c := c) (off := off) (L := L) (M := M) (a := false) HH1.out (keep := keep) (.inr (by rw [hk]; simp)))
      go_wp2_with fail
      obtain ⟨hE1, hE2⟩ := HE.out
      unfold put5 at hE1
      rw [hE1, hE2]
      clear hE1 hE2 p0 p1 p2 p3 p4 z0 z1 z2 z3 z4 y0 y1 y2 y3 y4 t0 t1 t2 t3 t4 u0 u1 u2 u3 u4 s0 s1 s2 s3 s4
      refine hcr.mono ?_
      rintro e w9 ⟨v, rfl, ho, b9⟩
      obtain ⟨A9, c9, rfl⟩ := ho.form
      obtain ⟨n9, hn9⟩ : ∃ x, (vd.mapF (fun _ f => vd.trim keep f) M).length = x := ⟨_, rfl⟩
      rw [hn9] at ho ⊢
      obtain ⟨v, hv⟩ : ∃ v, Value.slice A9 n9 c9 = v := ⟨_, rfl⟩
      rw [hv] at ho
      have hr9 := HR2.out.below b9
      have HF := Lib.hid (And.intro (put5_vb hr9 c v true l1 keep) (put5_below (HB5.out.trans ((b9).mono HB5.out.size)) HBR.out c v true l1 keep))
      have HO := Lib.hid ((owns_apart ho.low (put5_apart w9 r c v true l1 keep) (by
        intro g hg
        have := (ho.lt g hg).1
        simp
        have := HR2.out.lt
        omega)))
      obtain ⟨u0, u1, u2, u3, u4, s0, s1, s2, s3, s4⟩ := hr9.five
      clear hr9 ho b9 hn9
      subst hv
      go_wp2_with fail
      refine bodyPost_ret (results_c1t rfl _ _ r _ _ (0, 0) _ rfl HF.out.1 Tryd.underlying45 rfl rd_dsize) rfl ?_
      rw [HDE.out, HG.out]
      refine ⟨_, ?_, HO.out, HF.out.2⟩
      unfold rdD rdC; rw [HL1.out]; rfl
    · have HG := Lib.hid (done_go (c := c) (off := off) (L := L) (M := M) (a := false) HH1.out (keep := keep) (.inr (by rw [hk]; simp)))
      go_wp2_with fail
      obtain ⟨hE1, hE2⟩ := HE.out
      unfold put5 at hE1
      rw [hE1, hE2]
      clear hE1 hE2 p0 p1 p2 p3 p4 z0 z1 z2 z3 z4 y0 y1 y2 y3 y4 t0 t1 t2 t3 t4 u0 u1 u2 u3 u4 s0 s1 s2 s3 s4
      refine hcr.mono ?_
      rintro e w9 ⟨v, rfl, ho, b9⟩
      obtain ⟨A9, c9, rfl⟩ := ho.form
      obtain ⟨n9, hn9⟩ : ∃ x, (vd.mapF (fun _ f => vd.trim keep f) M).length = x := ⟨_, rfl⟩
      rw [hn9] at ho ⊢
      obtain ⟨v, hv⟩ : ∃ v, Value.slice A9 n9 c9 = v := ⟨_, rfl⟩
      rw [hv] at ho
      have hr9 := HR2.out.below b9
      have HF := Lib.hid (And.intro (put5_vb hr9 c v true l1 keep) (put5_below (HB5.out.trans ((b9).mono HB5.out.size)) HBR.out c v true l1 keep))
      have HO := Lib.hid ((owns_apart ho.low (put5_apart w9 r c v true l1 keep) (by
        intro g hg
        have := (ho.lt g hg).1
        simp
        have := HR2.out.lt
        omega)))
      obtain ⟨u0, u1, u2, u3, u4, s0, s1, s2, s3, s4⟩ := hr9.five
      clear hr9 ho b9 hn9
      subst hv
      go_wp2_with fail
      refine bodyPost_ret (results_c1t rfl _ _ r _ _ (0, 0) _ rfl HF.out.1 Tryd.underlying45 rfl rd_dsize) rfl ?_
      rw [HDE.out, HG.out]
      refine ⟨_, ?_, HO.out, HF.out.2⟩
      unfold rdD rdC; rw [HL1.out]; rfl
    · have HG := Lib.hid (done_stay (c := c) (off := off) (L := L) (M := M) (a := false) HH1.out rfl (keep := keep) hk)
      go_upto_region 6 with fail
      obtain ⟨hE1, hE2⟩ := HE.out
      unfold put5 at hE1
      rw [hE1, hE2]
      clear hE1 hE2 p0 p1 p2 p3 p4 z0 z1 z2 z3 z4 y0 y1 y2 y3 y4 t0 t1 t2 t3 t4 u0 u1 u2 u3 u4 s0 s1 s2 s3 s4
      obtain ⟨p0, p1, p2, p3, p4, z0, z1, z2, z3, z4⟩ := HV02.out.five
      obtain ⟨y0, y1, y2, y3, y4, t0, t1, t2, t3, t4⟩ := HV12.out.five
      have hb3 := put5_below HB5.out (g := b1) HBB.out c (.slice A n cc) off l1 keep
      have hr3 := HR2.out.apart (put5_apart X2 b1 c (.slice A n cc) off l1 keep) (by simp; omega)
      clear hcr
      have hcr := rd_crash (c := c) (off := off) (left := l1) (keep0 := keep) keep (owns_below HL.out hb3) HN.out (by have := HTL.out.len; rw [HN.out] at this; exact this) HTL.out.syn HTL.out.low
      unfold rdV at hcr
      have HR3 := Lib.hid hr3
      have HB3X := Lib.hid hb3
      clear hb3 hr3
      go_wp2_with fail
      refine hcr.mono ?_
      rintro e w9 ⟨v, rfl, ho, b9⟩
      obtain ⟨A9, c9, rfl⟩ := ho.form
      obtain ⟨n9, hn9⟩ : ∃ x, (vd.mapF (fun _ f => vd.trim keep f) L).length = x := ⟨_, rfl⟩
      rw [hn9] at ho ⊢
      obtain ⟨v, hv⟩ : ∃ v, Value.slice A9 n9 c9 = v := ⟨_, rfl⟩
      rw [hv] at ho
      have hr9 := HR3.out.below b9
      have HF := Lib.hid (And.intro (put5_vb hr9 c v true l1 keep) (put5_below (HB3X.out.trans ((b9).mono HB3X.out.size)) HBR.out c v true l1 keep))
      have HO := Lib.hid ((owns_apart ho.low (put5_apart w9 r c v true l1 keep) (by
        intro g hg
        have := (ho.lt g hg).1
        simp
        have := HR3.out.lt
        omega)))
      obtain ⟨u0, u1, u2, u3, u4, s0, s1, s2, s3, s4⟩ := hr9.five
      clear hr9 ho b9 hn9
      subst hv
      go_wp2_with fail
      refine bodyPost_ret (results_c1t rfl _ _ r _ _ (0, 0) _ rfl HF.out.1 Tryd.underlying45 rfl rd_dsize) rfl ?_
      rw [HDE.out, HG.out]
      refine ⟨_, ?_, HO.out, HF.out.2⟩
      unfold rdD rdC; rw [HL1.out]; rfl
  · have e1 : decide (left = 1) = false := decide_eq_false h1
    have hE : vd.doneE ⟨c, L, off, left, keep⟩ = 0 := if_neg h1
    rw [e1]
    have HDE := Lib.hid hE
    have HG := Lib.hid (done_not (c := c) (off := off) (keep := keep) (L := L) (M := M) (a := always) h1)
    clear h1 e1 hE
    have HF := Lib.hid (And.intro (put5_vb HR2.out c (.slice B m dd) off l1 keep) (put5_below HB5.out HBR.out c (.slice B m dd) off l1 keep))
    have HFM := Lib.hid (owns_below HM.out HF.out.2)
    obtain ⟨rfl, rfl⟩ := HE.out
    go_wp2_with fail
    refine bodyPost_ret (results_c1t rfl _ _ r _ _ (0, 0) _ rfl HF.out.1 Tryd.underlying45 rfl rd_dsize) rfl ?_
    rw [HDE.out, HG.out]
    refine ⟨.slice B m dd, ?_, ?_, HF.out.2⟩
    · unfold rdD rdC; rw [HL1.out]; rfl
    · exact HFM.out
end
end
end Go.Proofs.YtdnoeahhidmkbaaDoor
