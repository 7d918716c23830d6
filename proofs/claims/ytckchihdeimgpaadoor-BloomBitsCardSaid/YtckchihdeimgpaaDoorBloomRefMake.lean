/- The document's making of a filter, walked. -/
import Derived.Test.YtckchihdeimgpaaDoorBloomMake
namespace Go.Proofs.YtckchihdeimgpaaDoor
namespace blm
def marks (l : List Nat) (b : List Bool) : List Bool := l.foldl (fun b i => b.set i true) b
theorem marks_len (l : List Nat) (b : List Bool) : (marks l b).length = b.length := by
  unfold marks
  induction l generalizing b with
  | nil => rfl
  | cons i r ih => rw [List.foldl_cons, ih, List.length_set]
theorem getD_marks (l : List Nat) (b : List Bool) (k : Nat) (hk : k < b.length) : (marks l b).getD k false = (b.getD k false || decide (k ∈ l)) := by
  unfold marks
  induction l generalizing b with
  | nil => simp
  | cons i r ih =>
    rw [List.foldl_cons, ih _ (by rw [List.length_set]; exact hk)]
    rw [List.getD_eq_getElem?_getD, List.getD_eq_getElem?_getD, List.getElem?_set]
    by_cases e : i = k
    · subst e
      simp [hk]
    · have : ¬ k = i := fun h => e h.symm
      simp [e, this]
def markAll (m : Nat) (names : List (List UInt8)) : List Bool := names.foldl (fun b s => marks (places s m) b) (List.replicate m false)
theorem markAll_from_len (m : Nat) (names : List (List UInt8)) (b : List Bool) : (names.foldl (fun b s => marks (places s m) b) b).length = b.length := by
  induction names generalizing b with
  | nil => rfl
  | cons a r ih => rw [List.foldl_cons, ih, marks_len]
theorem markAll_len (m : Nat) (names : List (List UInt8)) : (markAll m names).length = m := by unfold markAll; rw [markAll_from_len, List.length_replicate]
theorem markAll_snoc (m : Nat) (names : List (List UInt8)) (a : List UInt8) : markAll m (names ++ [a]) = marks (places a m) (markAll m names) := by unfold markAll; rw [List.foldl_append]; rfl
theorem getD_from (m : Nat) (names : List (List UInt8)) (b : List Bool) (k : Nat) (hk : k < b.length) : (names.foldl (fun b s => marks (places s m) b) b).getD k false = (b.getD k false || decide (∃ s ∈ names, k ∈ places s m)) := by
  induction names generalizing b with
  | nil => simp
  | cons a r ih =>
    rw [List.foldl_cons, ih _ (by rw [marks_len]; exact hk), getD_marks _ _ _ hk]
    simp only [List.mem_cons, exists_eq_or_imp]
    rw [Bool.or_assoc]
    congr 1
    rw [Bool.eq_iff_iff]
    simp
theorem getD_markAll (n : Nat) (hn : 0 < n) (names : List (List UInt8)) (k : Nat) (hk : k < 8 * n) : (markAll (8 * n) names).getD k false = getB (filt n names) k := by
  unfold markAll
  rw [getD_from _ _ _ _ (by simpa using hk), getB_filt n hn, List.getD_eq_getElem?_getD, List.getElem?_replicate]
  simp [hk]
def inn (bl : List Bool) (k : Nat) : Bool := bl.getD k false
def tops (bl : List Bool) (n m : Nat) : List UInt8 := (List.range n).map fun j => UInt8.ofNat (top (inn bl) j (done m j))
theorem tops_len (bl : List Bool) (n m : Nat) : (tops bl n m).length = n := by simp [tops]
theorem tops_get (bl : List Bool) (n m j : Nat) (hj : j < n) : (tops bl n m)[j]? = some (UInt8.ofNat (top (inn bl) j (done m j))) := by
  unfold tops
  rw [List.getElem?_map, List.getElem?_range hj]
  rfl
theorem tops_full (bl : List Bool) (n : Nat) : tops bl n (8 * n) = List.replicate n 0 := by
  apply List.ext_getElem?
  intro j
  by_cases hj : j < n
  · rw [tops_get _ _ _ _ hj, List.getElem?_replicate, if_pos hj]
    have : done (8 * n) j = 0 := by unfold done; omega
    rw [this]
    rfl
  · rw [List.getElem?_eq_none (by rw [tops_len]; omega), List.getElem?_eq_none (by simp; omega)]
theorem tops_zero (n : Nat) (hn : 0 < n) (names : List (List UInt8)) : tops (markAll (8 * n) names) n 0 = filt n names := by
  apply List.ext_getElem?
  intro j
  by_cases hj : j < n
  · rw [tops_get _ _ _ _ hj]
    have : done 0 j = 8 := by unfold done; omega
    rw [this, top_filter (inn (markAll (8 * n) names)) (filt n names) (fun k hk => by rw [filt_len] at hk; exact (getD_markAll n hn names k hk).symm) j (by rw [filt_len]; exact hj)]
    rw [List.getD_eq_getElem?_getD, List.getElem?_eq_getElem (by rw [filt_len]; exact hj)]
    simp
  · rw [List.getElem?_eq_none (by rw [tops_len]; omega), List.getElem?_eq_none (by rw [filt_len]; omega)]
theorem tops_val (bl : List Bool) (n i : Nat) (hi : i < 8 * n) : ((tops bl n (i + 1)).getD (i / 8) 0).toNat = top (inn bl) (i / 8) (done (i + 1) (i / 8)) ∧ top (inn bl) (i / 8) (done (i + 1) (i / 8)) < 128 := by
  have hlt := top_lt (inn bl) (i / 8) (done (i + 1) (i / 8))
  have hd : done (i + 1) (i / 8) ≤ 7 := by unfold done; omega
  have h128 : 2 ^ done (i + 1) (i / 8) ≤ 2 ^ 7 := Nat.pow_le_pow_right (by decide) hd
  have h128' : (2 : Nat) ^ 7 = 128 := rfl
  refine ⟨?_, by omega⟩
  rw [List.getD_eq_getElem?_getD, tops_get _ _ _ _ (by omega)]
  simp only [Option.getD_some, UInt8.toNat_ofNat']
  exact Nat.mod_eq_of_lt (by omega)
theorem tops_step (bl : List Bool) (n i : Nat) (hi : i < 8 * n) : tops bl n i = (tops bl n (i + 1)).set (i / 8) (UInt8.ofNat (((tops bl n (i + 1)).getD (i / 8) 0).toNat * 2 + (inn bl i).toNat)) := by
  apply List.ext_getElem?
  intro j
  rw [(tops_val bl n i hi).1]
  by_cases hj : j < n
  · rw [tops_get _ _ _ _ hj]
    by_cases e : i / 8 = j
    · subst e
      rw [List.getElem?_set_self (by rw [tops_len]; exact hj)]
      have h1 : done i (i / 8) = done (i + 1) (i / 8) + 1 := by unfold done; omega
      have h2 : 8 * (i / 8) + 7 - done (i + 1) (i / 8) = i := by unfold done; omega
      rw [h1]
      conv => lhs; unfold top
      rw [h2]
    · rw [List.getElem?_set_ne e, tops_get _ _ _ _ hj]
      have : done i j = done (i + 1) j := by unfold done; omega
      rw [this]
  · rw [List.getElem?_eq_none (by rw [tops_len]; omega), List.getElem?_eq_none (by rw [List.length_set, tops_len]; omega)]
end blm

open Go Go.RowKit

/-- block g holds these marks -/
def Boo (w : World) (g : Nat) (bl : List Bool) : Prop := w.heap[g]? = some (.cells (bl.map Value.bool).toArray 4 (0, 0))
theorem Boo.cell {w : World} {g : Nat} {bl : List Bool} (h : Boo w g bl) (j : Nat) (hj : j < bl.length) : w.cell? ⟨g, j, none⟩ = some (.bool (bl.getD j false)) := by
  rw [cell_of_row w g j _ _ (0, 0) h, List.getD_eq_getElem?_getD, List.getElem?_eq_getElem hj]
  simp [hj]
theorem Boo.free {w : World} {g : Nat} {bl : List Bool} (h : Boo w g bl) (j : Nat) : w.frozen? ⟨g, j, none⟩ = false := by
  unfold Boo at h
  simp [World.frozen?, h]
theorem Boo.set {w : World} {g : Nat} {bl : List Bool} (h : Boo w g bl) (j : Nat) : Boo (w.setCell ⟨g, j, none⟩ (.bool true)) g (bl.set j true) := by
  unfold Boo at h ⊢
  simp only [World.setCell, Array.getElem?_modify, h, if_true]
  simp [List.map_set]
theorem Boo.lt {w : World} {g : Nat} {bl : List Bool} (h : Boo w g bl) : g < w.heap.size := (Array.getElem?_eq_some_iff.1 h).1
theorem Boo.below {w w' : World} {g : Nat} {bl : List Bool} (h : Boo w g bl) (hb : Below w.heap.size w w') : Boo w' g bl := (hb.block g h.lt).trans h
theorem Boo.other {w : World} {g : Nat} {bl : List Bool} (h : Boo w g bl) {a : Addr} {n : Nat} (hc : w.cell? a = some (numV n)) : some a.block ≠ some g := by
  intro e
  obtain rfl : a.block = g := Option.some.inj e
  unfold Boo at h
  simp only [World.cell?, h] at hc
  split at hc
  · cases hc
  · simp only [List.getElem?_toArray, List.getElem?_map] at hc
    cases hb : bl[a.off]? with
    | none => rw [hb] at hc; cases hc
    | some b => rw [hb] at hc; cases hc
theorem set_below {w0 w : World} (a : Addr) (v : Value) (hb : Below w0.heap.size w0 w) (hg : w0.heap.size ≤ a.block) : Below w0.heap.size w0 (w.setCell a v) :=
  hb.grown (row := some a.block) ⟨rfl, rfl, rfl, by simp [World.setCell], fun k _ hne => Below.heap_setCell _ _ _ k (fun e => hne (by rw [e]))⟩ hb.size (fun j e => by cases e; exact hg)
theorem set_grown (w : World) (a : Addr) (v : Value) : w.grownBy (w.setCell a v) (some a.block) := ⟨rfl, rfl, rfl, by simp [World.setCell], fun k _ hne => Below.heap_setCell _ _ _ k (fun e => hne (by rw [e]))⟩
theorem info_bool : (Tryd.prog.info? 4).map (fun i => (i.zero, i.size, i.bytes)) = some (some (.bool false), 1, 1) := by kernel_rfl
theorem made_false (n : Nat) : madeCells #[Value.bool false] n = (Array.replicate n (Value.bool false)) := by
  rw [← Array.toList_inj, toList_madeCells_one]
  simp
theorem boo_new (w : World) (n : Nat) : Boo (w.alloc (.cells (Array.replicate n (Value.bool false)) 4)) w.heap.size (List.replicate n false) := by
  unfold Boo
  have : ((List.replicate n false).map Value.bool).toArray = Array.replicate n (Value.bool false) := by simp
  rw [this]
  exact heap_alloc_new w _
theorem run_make_false (n : Nat) (hn : n ≤ 1000000) (W : World) : (Instr.makeSlice 40 (.int .i64 (n : Int)) (.int .i64 (n : Int))).run Tryd.prog W =
    .ok (.slice (some ⟨W.heap.size, 0, none⟩) n n) (W.alloc (.cells (Array.replicate n (Value.bool false)) 4)) := by
  obtain ⟨i0, hi, hz0, hz1, hz2⟩ := info_parts info_bool
  have h := run_make (P := Tryd.prog) W 40 4 i0 (.bool false) Tryd.underlying40 hi hz0 .i64 .i64 (n : Int) (n : Int) (by omega) (Int.le_refl _) (by rw [hz2]; omega) (by omega)
  rw [hz1, Nat.mul_one, Int.toNat_natCast] at h
  rw [← made_false]
  exact h

theorem rmake_arg (v : Value) (names : List (List UInt8)) (each : Int) (w : World) (h : each < 1 ∨ 64 < each) :
    Calls Tryd.prog 12 #[v, .int .i64 each] w (MakePost names each w) := by
  have hfin : blm.make names each = ([], 1) := by unfold blm.make; rw [if_pos h]
  have Hfin := Lib.hid hfin
  clear hfin
  rcases h with h | h
  all_goals
    go_enter Tryd.func12, Tryd.ntmps12
    go_wp2
    go_ret2
    unfold MakePost
    rw [Hfin.out]
    exact ⟨rfl, Below.refl _ _⟩
theorem rmake_wide (v : Value) (A : Option Addr) (c : Nat) (names : List (List UInt8)) (each : Int) (w : World) (he : 1 ≤ each) (he2 : each ≤ 64) (hn : 2000 < names.length) (hn2 : names.length ≤ maxLen) (hv : v = .slice A names.length c) :
    Calls Tryd.prog 12 #[v, .int .i64 each] w (MakePost names each w) := by
  subst hv
  unfold maxLen at hn2
  have hfin : blm.make names each = ([], 71) := by unfold blm.make; rw [if_neg (by omega), if_pos hn]
  have Hfin := Lib.hid hfin
  clear hfin
  go_enter Tryd.func12, Tryd.ntmps12
  go_wp2
  go_ret2
  unfold MakePost
  rw [Hfin.out]
  exact ⟨rfl, Below.refl _ _⟩

set_option maxHeartbeats 4000000 in
theorem rmake_main (A : Option Addr) (c : Nat) (names : List (List UInt8)) (each : Nat) (w : World) (he : 1 ≤ each) (he2 : each ≤ 64) (hn : names.length ≤ 2000)
    (hA : ∀ k, k < names.length → ∃ ad, A = some ad ∧ w.cell? (ad.add k) = some (.string (crcm.mk (names.getD k [])))) (hm : ∀ t ∈ names, t.length ≤ 1000000) :
    Calls Tryd.prog 12 #[.slice A names.length c, .int .i64 (each : Int)] w (MakePost names each w) := by
  have hfin : blm.make names each = (blm.filt (blm.fsize names.length each) names, 0) := by
    unfold blm.make; rw [if_neg (by omega), if_neg (by omega)]; rfl
  have hfs : blm.fsize names.length each = max ((names.length * each + 7) / 8) 8 := rfl
  obtain ⟨l, hl⟩ : ∃ l, names.length = l := ⟨_, rfl⟩
  rw [hl] at hfin hfs hn hA ⊢
  have hp1 : l * each ≤ 2000 * 64 := Nat.mul_le_mul hn he2
  obtain ⟨p, hp⟩ : ∃ p, l * each = p := ⟨_, rfl⟩
  have hpi : (l : Int) * (each : Int) = (p : Int) := by rw [← hp]; exact (Int.natCast_mul _ _).symm
  rw [hp] at hp1 hfs
  obtain ⟨n, hne⟩ : ∃ n, blm.fsize l each = n := ⟨_, rfl⟩
  rw [hne] at hfin hfs
  have hni : max (((p : Int) + 7) / 8) 8 = (n : Int) := by omega
  have hn8 : 8 ≤ n := by omega
  have hn2 : n ≤ 20000 := by omega
  have htz := blm.tops_zero n (by omega) names
  have htf : ∀ bl, blm.tops bl n (8 * n) = List.replicate n 0 := fun bl => blm.tops_full bl n
  have hml : ∀ ns, (blm.markAll (8 * n) ns).length = 8 * n := fun ns => blm.markAll_len _ ns
  have hma : ∀ k, k < l → blm.markAll (8 * n) (names.take (k + 1)) = blm.marks (blm.places (names.getD k []) (8 * n)) (blm.markAll (8 * n) (names.take k)) := fun k hk => by
    rw [← blm.markAll_snoc]
    congr 1
    rw [List.take_add_one, List.getD_eq_getElem?_getD, List.getElem?_eq_getElem (by rw [hl]; exact hk)]; rfl
  have hval := fun bl i (h : i < 8 * n) => blm.tops_val bl n i h
  have hstep := fun bl i (h : i < 8 * n) => blm.tops_step bl n i h
  obtain ⟨m, hme⟩ : ∃ m, 8 * n = m := ⟨_, rfl⟩
  have hmi : 8 * (n : Int) = (m : Int) := by omega
  have hm1 : m ≤ 160000 := by omega
  have hm8 : 64 ≤ m := by omega
  have hmk := run_make_zero n (by omega)
  have hmf := run_make_false m (by omega)
  rw [hme] at htz htf hml hma hval hstep
  have Hfin := Lib.hid hfin
  have Hl := Lib.hid hl
  have HA := Lib.hid hA
  have HM := Lib.hid hm
  have HTZ := Lib.hid htz
  have HTF := Lib.hid htf
  have HML := Lib.hid hml
  have HMA := Lib.hid hma
  have HVAL := Lib.hid hval
  have HSTEP := Lib.hid hstep
  have Hme := Lib.hid hme
  clear hfin hfs hp hne hl hA hm htz htf hml hma hval hstep hme
  go_enter Tryd.func12, Tryd.ntmps12
  go_wp2_with fail
  have hB0 : Boo (w.alloc (.cells (Array.replicate m (Value.bool false)) 4)) w.heap.size (List.replicate m false) := boo_new w m
  have hb0 : Below w.heap.size w (w.alloc (.cells (Array.replicate m (Value.bool false)) 4)) := (Below.refl _ w).alloc (Nat.le_refl _) _
  have Hb0 := Lib.hid hb0
  have HB0 := Lib.hid hB0
  clear hb0 hB0
  go_loopw [8] (fun i wr => ∃ k : Nat, k ≤ l ∧ i = .int .i64 k ∧ Boo wr w.heap.size (blm.markAll m (names.take k)) ∧ Below w.heap.size w wr) (fun i _ => l - (intOf i).toNat)
  case atStart => exact ⟨0, Nat.zero_le _, rfl, HB0.out, Hb0.out⟩
  case round =>
    obtain ⟨k, hk, rfl, hB, hbel⟩ := hrel
    by_cases hlt : k < l
    · obtain ⟨a1, rfl, c1⟩ := HA.out k hlt
      have c1' := cell_later hbel c1
      have hmem : names.getD k [] ∈ names := by
        rw [List.getD_eq_getElem?_getD, List.getElem?_eq_getElem (by rw [Hl.out]; exact hlt)]; exact List.getElem_mem _
      have htm := HM.out _ hmem
      have hnext := HMA.out k hlt
      obtain ⟨t, hte⟩ : ∃ t, names.getD k [] = t := ⟨_, rfl⟩
      rw [hte] at c1' htm hnext
      have hlen := HML.out (names.take k)
      obtain ⟨bl, hbl⟩ : ∃ bl, blm.markAll m (names.take k) = bl := ⟨_, rfl⟩
      rw [hbl] at hB hnext hlen
      have hrb := rbits_some4 (crcm.mk t) m wr (by rw [crcm.mk_size]; exact htm) (by omega) (by omega)
      rw [crcm.mk_toList] at hrb
      have HRB := Lib.hid hrb
      have HN := Lib.hid hnext
      have HLEN := Lib.hid hlen
      have HBEL := Lib.hid hbel
      clear hmem hte c1 hnext hlen hbl hrb hmk hmf hbel
      go_wp2_with (go_at_call 17; refine HRB.out.mono ?_; rintro e w1 ⟨ad, c2, rfl, hcells, hb1⟩)
      have HC := Lib.hid hcells
      have hB1 := hB.below hb1
      have hbel1 : Below w.heap.size w w1 := HBEL.out.trans (hb1.mono HBEL.out.size)
      have HB1 := Lib.hid hB1
      have HBEL1 := Lib.hid hbel1
      clear hcells hb1 hB hB1 hbel1 c1'
      go_loopw [10] (fun i wr => ∃ q : Nat, q ≤ 4 ∧ i = .int .i64 q ∧ Boo wr w.heap.size (blm.marks ((blm.places t m).take q) bl) ∧ (∀ k, k < 4 → wr.cell? (ad.add k) = some (numV (blm.place t m k))) ∧ Below w.heap.size w wr) (fun i _ => 4 - (intOf i).toNat)
      case atStart => exact ⟨0, Nat.zero_le _, rfl, HB1.out, HC.out, HBEL1.out⟩
      case round =>
        obtain ⟨q, hq, rfl, hB, hcells, hbel⟩ := hrel
        by_cases hlt4 : q < 4
        · have hc := hcells q hlt4
          unfold numV at hc
          have hpt := places_take t m q hlt4
          have hpp : blm.place t m q < m := blm.place_lt (by omega)
          obtain ⟨r, hr⟩ : ∃ r, blm.place t m q = r := ⟨_, rfl⟩
          rw [hr] at hc hpp hpt
          have hml : (blm.marks ((blm.places t m).take q) bl).length = m := by rw [blm.marks_len, HLEN.out]
          have hnx : blm.marks ((blm.places t m).take (q + 1)) bl = (blm.marks ((blm.places t m).take q) bl).set r true := by
            rw [hpt]; unfold blm.marks; rw [List.foldl_append]; rfl
          obtain ⟨b2, hb2⟩ : ∃ b2, blm.marks ((blm.places t m).take q) bl = b2 := ⟨_, rfl⟩
          rw [hb2] at hnx hml hB
          have hbc := hB.cell r (by rw [hml]; exact hpp)
          have hfree := hB.free r
          have HCS := Lib.hid hcells
          have HB := Lib.hid hB
          have HNX := Lib.hid hnx
          have HBE := Lib.hid hbel
          clear hcells hB hnx hbel hpt hr hb2 hml
          go_wp2
          go_roundw
          case rel =>
            refine ⟨q + 1, by omega, by go_num, by rw [HNX.out]; exact HB.out.set r, fun j hj => ?_, ?_⟩
            · exact (set_grown _ _ _).cell (HCS.out j hj) (HB.out.other (HCS.out j hj))
            · exact set_below _ _ HBE.out (Nat.le_refl _)
          case measure => simp [intOf]; omega
        · obtain rfl : q = 4 := by omega
          have h4 : (blm.places t m).take 4 = blm.places t m := rfl
          rw [h4] at hB
          have HB := Lib.hid hB
          have HBE := Lib.hid hbel
          clear hB hbel hcells h4
          go_wp2
          go_roundw
          case rel => exact ⟨k + 1, by omega, by go_num, by rw [HN.out]; exact HB.out, HBE.out⟩
          case measure => simp [intOf]; omega
    · obtain rfl : k = l := by omega
      have htake : names.take k = names := List.take_of_length_le (by rw [Hl.out]; exact Nat.le_refl _)
      rw [htake] at hB
      have hlen := HML.out names
      have htf := HTF.out (blm.markAll m names)
      obtain ⟨bl, hbl⟩ : ∃ bl, blm.markAll m names = bl := ⟨_, rfl⟩
      rw [hbl] at hB hlen htf
      have htz := HTZ.out
      rw [hbl] at htz
      have hvs := HVAL.out bl
      have hss := HSTEP.out bl
      have hmw := run_make_zero n (by omega) wr
      have hF0 : Fil (wr.alloc (.cells (Array.replicate n (byteV 0)) 5)) wr.heap.size (List.replicate n 0) := fil_new wr n
      rw [← htf] at hF0
      have hb2 : Below wr.heap.size wr (wr.alloc (.cells (Array.replicate n (byteV 0)) 5)) := (Below.refl _ wr).alloc (Nat.le_refl _) _
      have HTZ2 := Lib.hid htz
      have HLEN := Lib.hid hlen
      have HV := Lib.hid hvs
      have HS := Lib.hid hss
      have HB := Lib.hid (hB.below hb2)
      have HF0 := Lib.hid hF0
      have HBE := Lib.hid (hbel.trans (hb2.mono hbel.size))
      have hgs := hB.lt
      have hbs := hbel.size
      clear htake hB hlen htf hbl htz hvs hss hmk hmf hF0 hb2 hbel
      obtain ⟨G, hG⟩ : ∃ G, wr.heap.size = G := ⟨_, rfl⟩
      rw [hG] at hmw HF0 hgs hbs
      obtain ⟨W, hW⟩ : ∃ W, wr.alloc (.cells (Array.replicate n (byteV 0)) 5) = W := ⟨_, rfl⟩
      rw [hW] at hmw HF0 HB HBE
      clear hW hG
      go_wp2
      go_loopw [12] (fun i wr => ∃ (mm : Nat) (z : Int), mm ≤ m ∧ i = .int .i64 z ∧ z = (mm : Int) - 1 ∧ Fil wr G (blm.tops bl n mm) ∧ Boo wr w.heap.size bl ∧ Below w.heap.size w wr) (fun i _ => (intOf i + 1).toNat)
      case atStart => exact ⟨m, _, Nat.le_refl _, rfl, rfl, HF0.out, HB.out, HBE.out⟩
      case round =>
        obtain ⟨mm, z, hmm, rfl, hz, hF, hB, hbel⟩ := hrel
        cases mm with
        | zero =>
          obtain rfl : z = -1 := by omega
          clear hz
          rw [HTZ2.out] at hF
          have hbk := run_back (blm.filt n names) G wr hF n
          rw [blm.filt_len] at hbk
          have HBE2 := Lib.hid hbel
          clear hF hB hbel
          go_wp2
          go_ret2
          unfold MakePost
          rw [Hfin.out]
          exact ⟨rfl, HBE2.out⟩
        | succ i =>
          obtain rfl : z = (i : Int) := by omega
          clear hz
          have hi : i < m := by omega
          obtain ⟨hv1, hv2⟩ := HV.out i hi
          have hst := HS.out i hi
          have hjl : i / 8 < n := by omega
          obtain ⟨j, hj⟩ : ∃ j, i / 8 = j := ⟨_, rfl⟩
          have hji : (i : Int) / 8 = (j : Int) := by omega
          have htl := blm.tops_len bl n (i + 1)
          rw [hj] at hv1 hv2 hst hjl
          rw [← hv1] at hv2
          obtain ⟨fl, hfl⟩ : ∃ fl, blm.tops bl n (i + 1) = fl := ⟨_, rfl⟩
          rw [hfl] at hv2 hst hF htl
          have hcell := hF.cell j (fl.getD j 0) (by rw [List.getD_eq_getElem?_getD, List.getElem?_eq_getElem (by omega)]; rfl)
          unfold byteV at hcell
          have hfz := hF.free j
          obtain ⟨b, hb⟩ : ∃ b, fl.getD j 0 = b := ⟨_, rfl⟩
          rw [hb] at hcell hv2 hst
          obtain ⟨x, hx⟩ : ∃ x, b.toNat = x := ⟨_, rfl⟩
          rw [hx] at hcell hv2 hst
          obtain ⟨b2, hb2⟩ : ∃ b2, UInt8.ofNat (x * 2) = b2 := ⟨_, rfl⟩
          have hx2 : (x : Int) * 2 = (b2.toNat : Int) := by
            rw [← hb2, UInt8.toNat_ofNat']; omega
          have hF2 := hF.set j b2
          unfold byteV at hF2
          have hB2 : Boo (wr.setCell ⟨G, j, none⟩ (.int .u8 (b2.toNat : Int))) w.heap.size bl := by
            unfold Boo at hB ⊢
            rw [← hB]
            exact Below.heap_setCell _ _ _ _ (show w.heap.size ≠ G by omega)
          have hbc := hB2.cell i (by rw [HLEN.out]; exact hi)
          have hin : blm.inn bl i = bl.getD i false := rfl
          rw [hin] at hst
          have hset : (fl.set j b2).length = n := by rw [List.length_set, htl]
          have hc2 := hF2.cell j b2 (by rw [List.getElem?_set_self (by omega)])
          unfold byteV at hc2
          have hf2 := hF2.free j
          have hbel2 := set_below (⟨G, j, none⟩ : Addr) (.int .u8 (b2.toNat : Int)) hbel hbs
          obtain ⟨W1, hW1⟩ : ∃ W1, wr.setCell ⟨G, j, none⟩ (.int .u8 (b2.toNat : Int)) = W1 := ⟨_, rfl⟩
          rw [hW1] at hF2 hB2 hbc hc2 hf2 hbel2
          have HF2 := Lib.hid hF2
          have HB2 := Lib.hid hB2
          have HBE2 := Lib.hid hbel2
          have HST := Lib.hid hst
          have Hb2 := Lib.hid hb2
          have hb2l := b2.toNat_lt
          clear hF2 hB2 hbel2 hst hb2 hF hB hbel hv1 hfl hb hx htl hset hj hin hmw
          by_cases hbit : bl.getD i false = true
          · rw [hbit] at hbc
            have hst2 := HST.out
            rw [hbit] at hst2
            obtain ⟨b3, hb3⟩ : ∃ b3, UInt8.ofNat (x * 2 + 1) = b3 := ⟨_, rfl⟩
            have hx3 : (b2.toNat : Int) + 1 = (b3.toNat : Int) := by
              rw [← hb3, UInt8.toNat_ofNat']; omega
            have hF3 := HF2.out.set j b3
            rw [List.set_set] at hF3
            unfold byteV at hF3
            have hst3 : blm.tops bl n i = fl.set j b3 := by rw [hst2, ← hb3]; rfl
            rw [← hst3] at hF3
            have hB3 : Boo (W1.setCell ⟨G, j, none⟩ (.int .u8 (b3.toNat : Int))) w.heap.size bl := by
              have := HB2.out
              unfold Boo at this ⊢
              rw [← this]
              exact Below.heap_setCell _ _ _ _ (show w.heap.size ≠ G by omega)
            have hbel3 := set_below (⟨G, j, none⟩ : Addr) (.int .u8 (b3.toNat : Int)) HBE2.out hbs
            have HF3 := Lib.hid hF3
            have HB3 := Lib.hid hB3
            have HBE3 := Lib.hid hbel3
            clear hst2 hb3 hF3 hst3 hB3 hbel3 hbit
            go_wp2
            go_roundw
            case rel => exact ⟨i, _, by omega, rfl, by omega, HF3.out, HB3.out, HBE3.out⟩
            case measure => simp [intOf]
          · have hbit' : bl.getD i false = false := by simpa using hbit
            rw [hbit'] at hbc
            have hst2 := HST.out
            rw [hbit'] at hst2
            have hF3 := HF2.out
            have hst3 : blm.tops bl n i = fl.set j b2 := by rw [hst2, ← Hb2.out]; rfl
            rw [← hst3] at hF3
            have HF3 := Lib.hid hF3
            clear hst2 hF3 hst3 hbit hbit'
            go_wp2
            go_roundw
            case rel => exact ⟨i, _, by omega, rfl, by omega, HF3.out, HB2.out, HBE2.out⟩
            case measure => simp [intOf]

theorem rmake_any (v : Value) (names : List (List UInt8)) (each : Int) (w : World) (hv : Texts w v names) (hm : ∀ t ∈ names, t.length ≤ 1000000) :
    Calls Tryd.prog 12 #[v, .int .i64 each] w (MakePost names each w) := by
  by_cases h : each < 1 ∨ 64 < each
  · exact rmake_arg v names each w h
  · obtain ⟨⟨A, c, rfl, hA⟩, hl, _⟩ := hv
    by_cases hn : 2000 < names.length
    · exact rmake_wide _ A c names each w (by omega) (by omega) hn hl rfl
    · obtain ⟨n, rfl⟩ := Int.eq_ofNat_of_zero_le (show 0 ≤ each by omega)
      exact rmake_main A c names n w (by omega) (by omega) (by omega) hA hm
end Go.Proofs.YtckchihdeimgpaaDoor
