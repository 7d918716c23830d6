/- Making a filter, and asking it, walked. -/
import Derived.Test.YtckchihdeimgpaaDoorBloomPlaces
import Derived.Lib.MinMax
namespace Go.Proofs.YtckchihdeimgpaaDoor
open Go Go.RowKit

theorem info_u8 : (Tryd.prog.info? 5).map (fun i => (i.zero, i.size, i.bytes)) = some (some (.int .u8 0), 1, 1) := by kernel_rfl
theorem made_zero (n : Nat) : madeCells #[Value.int .u8 0] n = (Array.replicate n (byteV 0)) := by
  rw [← Array.toList_inj, toList_madeCells_one]
  simp [byteV]
theorem zero_row (n : Nat) : ((List.replicate n (0 : UInt8)).map byteV).toArray = (Array.replicate n (byteV 0)) := by simp
theorem fil_new (w : World) (n : Nat) : Fil (w.alloc (.cells (Array.replicate n (byteV 0)) 5)) w.heap.size (List.replicate n 0) := by
  unfold Fil
  rw [zero_row]
  exact heap_alloc_new w _
theorem run_make_zero (n : Nat) (hn : n ≤ 1000000) (W : World) : (Instr.makeSlice 38 (.int .i64 (n : Int)) (.int .i64 (n : Int))).run Tryd.prog W =
    .ok (.slice (some ⟨W.heap.size, 0, none⟩) n n) (W.alloc (.cells (Array.replicate n (byteV 0)) 5)) := by
  obtain ⟨i0, hi, hz0, hz1, hz2⟩ := info_parts info_u8
  have h := run_make (P := Tryd.prog) W 38 5 i0 (.int .u8 0) Tryd.underlying38 hi hz0 .i64 .i64 (n : Int) (n : Int) (by omega) (Int.le_refl _) (by rw [hz2]; omega) (by omega)
  rw [hz1, Nat.mul_one, Int.toNat_natCast] at h
  rw [← made_zero]
  exact h
theorem run_back (fl : List UInt8) (g : Nat) (W : World) (hF : Fil W g fl) (cap : Nat) : (convert 38 9 (.slice (some ⟨g, 0, none⟩) fl.length cap)).run Tryd.prog W = .ok (.string (crcm.mk fl)) W :=
  run_convert_bytes_back W 38 9 5 ⟨g, 0, none⟩ cap fl Tryd.underlying38 Tryd.underlying5 Tryd.underlying9 (fun j hj => by
    rw [show (⟨g, 0, none⟩ : Addr).add j = ⟨g, j, none⟩ from by unfold Addr.add; split <;> simp_all]
    exact hF.cell j fl[j] (List.getElem?_eq_getElem hj))

def MakePost (names : List (List UInt8)) (each : Int) (w : World) (e : Ending) (w' : World) : Prop :=
  e = .returned (.tuple #[.string (crcm.mk (blm.make names each).1), .int .i64 ((blm.make names each).2 : Nat)]) ∧ Below w.heap.size w w'

theorem make_arg (v : Value) (names : List (List UInt8)) (each : Int) (w : World) (h : each < 1 ∨ 64 < each) :
    Calls Tryd.prog 11 #[v, .int .i64 each] w (MakePost names each w) := by
  have hfin : blm.make names each = ([], 1) := by unfold blm.make; rw [if_pos h]
  have Hfin := Lib.hid hfin
  clear hfin
  rcases h with h | h
  all_goals
    go_enter Tryd.func11, Tryd.ntmps11
    go_wp2
    go_ret2
    unfold MakePost
    rw [Hfin.out]
    exact ⟨rfl, Below.refl _ _⟩

set_option maxHeartbeats 2000000 in
theorem make_main (A : Option Addr) (c : Nat) (names : List (List UInt8)) (each : Nat) (w : World) (he : 1 ≤ each) (he2 : each ≤ 64) (hn : names.length ≤ 2000)
    (hA : ∀ k, k < names.length → ∃ ad, A = some ad ∧ w.cell? (ad.add k) = some (.string (crcm.mk (names.getD k [])))) (hm : ∀ t ∈ names, t.length ≤ 1000000) (ht : TabAt w) :
    Calls Tryd.prog 11 #[.slice A names.length c, .int .i64 (each : Int)] w (MakePost names each w) := by
  have hfin : blm.make names each = (blm.filt (blm.fsize names.length each) names, 0) := by
    unfold blm.make; rw [if_neg (by omega), if_neg (by omega)]; rfl
  have hfs : blm.fsize names.length each = max ((names.length * each + 7) / 8) 8 := rfl
  obtain ⟨l, hl⟩ : ∃ l, names.length = l := ⟨_, rfl⟩
  rw [hl] at hfin hfs hn hA ⊢
  have hp1 : l * each ≤ 2000 * 64 := Nat.mul_le_mul hn he2
  obtain ⟨p, hp⟩ : ∃ p, l * each = p := ⟨_, rfl⟩
  have hpi : (l : Int) * (each : Int) = (p : Int) := by rw [← hp]; exact (Int.natCast_mul _ _).symm
  rw [hp] at hp1 hfs
  obtain ⟨n, hne⟩ : ∃ n, blm.fsize l each = n := ⟨_, rfl⟩
  rw [hne] at hfin hfs
  have hni : max (((p : Int) + 7) / 8) 8 = (n : Int) := by omega
  have hn8 : 8 ≤ n := by omega
  have hn2 : n ≤ 20000 := by omega
  have Hfin := Lib.hid hfin
  have Hl := Lib.hid hl
  have HA := Lib.hid hA
  have HM := Lib.hid hm
  have hmk := run_make_zero n (by omega)
  clear hfin hfs hp hne hl hA hm
  go_enter Tryd.func11, Tryd.ntmps11
  go_wp2
  have hF0 : Fil ((w.alloc (.cells (Array.replicate n (byteV 0)) 5)).alloc (.cells #[.slice (some ⟨w.heap.size, 0, none⟩) n n] 38)) w.heap.size (List.replicate n 0) := by
    have h1 : Fil (w.alloc (.cells (Array.replicate n (byteV 0)) 5)) w.heap.size (List.replicate n 0) := fil_new w n
    exact (Below.heap_alloc _ _ _ (by simp)).trans h1
  have hb0 : Below w.heap.size w ((w.alloc (.cells (Array.replicate n (byteV 0)) 5)).alloc (.cells #[.slice (some ⟨w.heap.size, 0, none⟩) n n] 38)) := ((Below.refl _ w).alloc (Nat.le_refl _) _).alloc (by simp) _
  have hx0 : ((w.alloc (.cells (Array.replicate n (byteV 0)) 5)).alloc (.cells #[.slice (some ⟨w.heap.size, 0, none⟩) n n] 38)).cell? ⟨w.heap.size + 1, 0, none⟩ = some (.slice (some ⟨w.heap.size, 0, none⟩) n n) := by
    have h := heap_alloc_new (w.alloc (.cells (Array.replicate n (byteV 0)) 5)) (.cells #[.slice (some ⟨w.heap.size, 0, none⟩) n n] 38)
    rw [World.size_alloc] at h
    exact cell_of_one h
  have Hb0 := Lib.hid hb0
  have Hx0 := Lib.hid hx0
  have HF0 := Lib.hid hF0
  clear hb0 hx0 hF0
  go_loopw [8, 30] (fun _ i wr => ∃ k : Nat, k ≤ l ∧ i = .int .i64 k ∧ Fil wr w.heap.size (blm.filt n (names.take k)) ∧ wr.cell? ⟨w.heap.size + 1, 0, none⟩ = some (.slice (some ⟨w.heap.size, 0, none⟩) n n) ∧ Below w.heap.size w wr) (fun _ i _ => l - (intOf i).toNat)
  case atStart => exact ⟨0, Nat.zero_le _, rfl, HF0.out, Hx0.out, Hb0.out⟩
  case round =>
    obtain ⟨k, hk, rfl, hF, hx, hbel⟩ := hrel
    clear hmk
    have htr := ht.below hbel ht.1
    have hg0 : w.heap.size ≠ 0 := by have := ht.1; omega
    by_cases hlt : k < l
    · obtain ⟨a1, rfl, c1⟩ := HA.out k hlt
      have c1' := cell_later hbel c1
      have hmem : names.getD k [] ∈ names := by
        rw [List.getD_eq_getElem?_getD, List.getElem?_eq_getElem (by rw [Hl.out]; exact hlt)]; exact List.getElem_mem _
      have htm := HM.out _ hmem
      have hsn : names.take (k + 1) = names.take k ++ [names.getD k []] := by
        rw [List.take_add_one, List.getD_eq_getElem?_getD, List.getElem?_eq_getElem (by rw [Hl.out]; exact hlt)]; rfl
      obtain ⟨t, hte⟩ : ∃ t, names.getD k [] = t := ⟨_, rfl⟩
      rw [hte] at c1' htm hsn
      have hnext : blm.filt n (names.take (k + 1)) = blm.addName n (blm.filt n (names.take k)) t := by rw [hsn, blm.filt_snoc]
      have hfl := blm.filt_len n (names.take k)
      obtain ⟨fl, hfle⟩ : ∃ fl, blm.filt n (names.take k) = fl := ⟨_, rfl⟩
      rw [hfle] at hF hnext hfl
      have hx' : wr.cell? ⟨w.heap.size + 1, 0, none⟩ = some (.slice (some ⟨w.heap.size, 0, none⟩) fl.length n) := by rw [hfl]; exact hx
      have hps := places_set (crcm.mk t) fl (w.heap.size + 1) w.heap.size n wr (by rw [crcm.mk_size]; exact htm) (by omega) (by omega) hx' (by omega) (by omega) hg0 hF htr
      rw [crcm.mk_toList, hfl] at hps
      obtain ⟨m, hm⟩ : ∃ m, 8 * n = m := ⟨_, rfl⟩
      have hmi : 8 * (n : Int) = (m : Int) := by omega
      rw [hm] at hps
      have HPS := Lib.hid hps
      have HN := Lib.hid hnext
      clear hmem hte c1 hsn hnext hfl hfle hx' hps hm
      go_wp2_with (go_at_call 20; refine HPS.out.mono ?_; rintro e w3 ⟨rfl, hF3, hg3⟩)
      go_roundw
      case rel => exact ⟨k + 1, by omega, by go_num, by rw [HN.out]; exact hF3, hg3.cell hx (by simp), hbel.grown hg3 hbel.size (fun j e => by cases e; exact Nat.le_refl _)⟩
      case measure => simp [intOf]; omega
    · obtain rfl : k = l := by omega
      have htake : names.take k = names := List.take_of_length_le (by rw [Hl.out]; exact Nat.le_refl _)
      rw [htake] at hF
      have hfl := blm.filt_len n names
      have hbk := run_back (blm.filt n names) w.heap.size wr hF n
      rw [hfl] at hbk
      have Hfl := Lib.hid hfl
      clear htake hfl hF
      go_wp2
      go_ret2
      unfold MakePost
      rw [Hfin.out]
      exact ⟨rfl, hbel⟩

theorem make_wide (v : Value) (A : Option Addr) (c : Nat) (names : List (List UInt8)) (each : Int) (w : World) (he : 1 ≤ each) (he2 : each ≤ 64) (hn : 2000 < names.length) (hn2 : names.length ≤ maxLen) (hv : v = .slice A names.length c) :
    Calls Tryd.prog 11 #[v, .int .i64 each] w (MakePost names each w) := by
  subst hv
  unfold maxLen at hn2
  have hfin : blm.make names each = ([], 71) := by unfold blm.make; rw [if_neg (by omega), if_pos hn]
  have Hfin := Lib.hid hfin
  clear hfin
  go_enter Tryd.func11, Tryd.ntmps11
  go_wp2
  go_ret2
  unfold MakePost
  rw [Hfin.out]
  exact ⟨rfl, Below.refl _ _⟩
theorem make_any (v : Value) (names : List (List UInt8)) (each : Int) (w : World) (hv : Texts w v names) (hm : ∀ t ∈ names, t.length ≤ 1000000) (ht : TabAt w) :
    Calls Tryd.prog 11 #[v, .int .i64 each] w (MakePost names each w) := by
  by_cases h : each < 1 ∨ 64 < each
  · exact make_arg v names each w h
  · obtain ⟨⟨A, c, rfl, hA⟩, hl, _⟩ := hv
    by_cases hn : 2000 < names.length
    · exact make_wide _ A c names each w (by omega) (by omega) hn hl rfl
    · obtain ⟨n, rfl⟩ := Int.eq_ofNat_of_zero_le (show 0 ≤ each by omega)
      exact make_main A c names n w (by omega) (by omega) (by omega) hA hm ht

theorem not_empty (s : ByteArray) (h : 0 < s.size) : s.toList.isEmpty = false := by
  rw [ByteArray.toList_eq]
  have := crcm.size_len s
  cases hl : s.data.toList with
  | nil => rw [hl] at this; simp at this; omega
  | cons a b => rfl
theorem may_none (s name : ByteArray) (w : World) (h : s.size = 0) :
    Calls Tryd.prog 18 #[.string s, .string name] w fun e w' => e = .returned (.bool (blm.may s.data.toList name.data.toList)) ∧ Below w.heap.size w w' := by
  have hl := crcm.size_len s
  have hnil : s.data.toList = [] := List.eq_nil_of_length_eq_zero (by omega)
  have hfin : blm.may s.data.toList name.data.toList = true := by rw [hnil]; rfl
  have hne : s.toList.isEmpty = true := by rw [ByteArray.toList_eq, hnil]; rfl
  rw [hfin]
  clear hl hfin hnil h
  go_enter Tryd.func18, Tryd.ntmps18
  go_wp2_with fail
  go_ret
  exact ⟨rfl, (Below.refl _ _).alloc (Nat.le_refl _) _⟩
set_option maxHeartbeats 1000000 in
theorem may_some (s name : ByteArray) (w : World) (h : 0 < s.size) (hs : s.size ≤ 100000) (hn : name.size ≤ 1000000) (ht : TabAt w) :
    Calls Tryd.prog 18 #[.string s, .string name] w fun e w' => e = .returned (.bool (blm.may s.data.toList name.data.toList)) ∧ Below w.heap.size w w' := by
  have hl := crcm.size_len s
  have hfin : blm.may s.data.toList name.data.toList = (blm.places name.data.toList (8 * s.size)).all (blm.getB s.data.toList) := by
    unfold blm.may
    rw [hl]
    have : s.data.toList.isEmpty = false := by have := not_empty s h; rwa [ByteArray.toList_eq] at this
    rw [this, Bool.false_or]
  have hne := not_empty s h
  have hb1 : Below w.heap.size w (w.alloc (.cells #[.string s] 9)) := (Below.refl _ _).alloc (Nat.le_refl _) _
  have hpa := places_ask name s w.heap.size (w.alloc (.cells #[.string s] 9)) hn h hs (cell_of_one (heap_alloc_new w _)) (ht.below hb1 ht.1)
  obtain ⟨m, hm⟩ : ∃ m, 8 * s.size = m := ⟨_, rfl⟩
  have hmi : 8 * (s.size : Int) = (m : Int) := by omega
  rw [hm] at hpa hfin
  have HPA := Lib.hid hpa
  have Hfin := Lib.hid hfin
  have Hb1 := Lib.hid hb1
  clear hl hfin hpa hm hb1
  go_enter Tryd.func18, Tryd.ntmps18
  go_wp2_with (go_at_call 20; refine HPA.out.mono ?_; rintro e w3 ⟨rfl, hb3⟩)
  go_ret
  exact ⟨ret_of (by rw [Hfin.out]; rfl), Hb1.out.trans (hb3.mono Hb1.out.size)⟩
theorem may_any (s name : ByteArray) (w : World) (hs : s.size ≤ 100000) (hn : name.size ≤ 1000000) (ht : TabAt w) :
    Calls Tryd.prog 18 #[.string s, .string name] w fun e w' => e = .returned (.bool (blm.may s.data.toList name.data.toList)) ∧ Below w.heap.size w w' := by
  by_cases h : s.size = 0
  · exact may_none s name w h
  · exact may_some s name w (by omega) hs hn ht

theorem rmay_none (s name : ByteArray) (w : World) (h : s.size = 0) :
    Calls Tryd.prog 19 #[.string s, .string name] w fun e w' => e = .returned (.bool (blm.may s.data.toList name.data.toList)) ∧ Below w.heap.size w w' := by
  have hl := crcm.size_len s
  have hnil : s.data.toList = [] := List.eq_nil_of_length_eq_zero (by omega)
  have hfin : blm.may s.data.toList name.data.toList = true := by rw [hnil]; rfl
  have hne : s.toList.isEmpty = true := by rw [ByteArray.toList_eq, hnil]; rfl
  rw [hfin]
  clear hl hfin hnil h
  go_enter Tryd.func19, Tryd.ntmps19
  go_wp2_with fail
  go_ret
  exact ⟨rfl, Below.refl _ _⟩

set_option maxHeartbeats 2000000 in
theorem rbits_some4 (s : ByteArray) (m : Nat) (w : World) (hs : s.size ≤ 1000000) (hm : 1 ≤ m) (hm2 : m ≤ 1000000) :
    Calls Tryd.prog 17 #[.string s, .int .i64 (m : Int)] w fun e w' => ∃ ad c, e = .returned (.slice (some ad) 4 c) ∧ (∀ k, k < 4 → w'.cell? (ad.add k) = some (numV (blm.place s.data.toList m k))) ∧ Below w.heap.size w w' := by
  refine (rbits_some s m w hs hm hm2).mono ?_
  rintro e w' ⟨v, rfl, ⟨A, c, rfl, _, hc⟩, hb⟩
  obtain ⟨ad, rfl, _⟩ := hc 0 (numV (blm.place s.data.toList m 0)) rfl
  refine ⟨ad, c, rfl, fun k hk => ?_, hb⟩
  obtain ⟨ad', e2, h2⟩ := hc k (numV (blm.place s.data.toList m k)) (by
    match k, hk with
    | 0, _ => rfl
    | 1, _ => rfl
    | 2, _ => rfl
    | 3, _ => rfl)
  obtain rfl : ad = ad' := by injection e2
  exact h2

set_option maxHeartbeats 2000000 in
theorem rmay_some (s name : ByteArray) (w : World) (h : 0 < s.size) (hs : s.size ≤ 100000) (hn : name.size ≤ 1000000) :
    Calls Tryd.prog 19 #[.string s, .string name] w fun e w' => e = .returned (.bool (blm.may s.data.toList name.data.toList)) ∧ Below w.heap.size w w' := by
  have hl := crcm.size_len s
  have hfin : blm.may s.data.toList name.data.toList = (blm.places name.data.toList (8 * s.size)).all (blm.getB s.data.toList) := by
    unfold blm.may
    rw [hl]
    have : s.data.toList.isEmpty = false := by have := not_empty s h; rwa [ByteArray.toList_eq] at this
    rw [this, Bool.false_or]
  have hne := not_empty s h
  obtain ⟨m, hm⟩ : ∃ m, 8 * s.size = m := ⟨_, rfl⟩
  have hmi : 8 * (s.size : Int) = (m : Int) := by omega
  have hrb := rbits_some4 name m w hn (by omega) (by omega)
  rw [hm] at hfin
  have HRB := Lib.hid hrb
  have Hfin := Lib.hid hfin
  have Hm := Lib.hid hm
  clear hl hfin hrb hm
  go_enter Tryd.func19, Tryd.ntmps19
  go_wp2_with fail
  refine HRB.out.mono ?_
  rintro e w1 ⟨ad, c, rfl, hcells, hb1⟩
  go_wp2_with fail
  have HC := Lib.hid hcells
  clear hcells
  go_loop [6] (fun i => ∃ k : Nat, k ≤ 4 ∧ i = .int .i64 k ∧ ((blm.places name.data.toList m).take k).all (blm.getB s.data.toList) = true) (fun i => 4 - (intOf i).toNat)
  case atStart => exact ⟨0, Nat.zero_le _, rfl, rfl⟩
  case round =>
    obtain ⟨k, hk, rfl, hall⟩ := hrel
    have HALL := Lib.hid hall
    clear hall
    by_cases hlt : k < 4
    · have hc := HC.out k hlt
      unfold numV at hc
      have hpt := places_take name.data.toList m k hlt
      have hpp : blm.place name.data.toList m k < m := blm.place_lt (by have := Hm.out; omega)
      obtain ⟨r, hr⟩ : ∃ r, blm.place name.data.toList m k = r := ⟨_, rfl⟩
      rw [hr] at hc hpp hpt
      have hbit := bit_any s r w1 (by omega) (by rw [Hm.out]; exact hpp)
      have HPT := Lib.hid hpt
      have hmem : r ∈ blm.places name.data.toList m := by
        have : r ∈ (blm.places name.data.toList m).take (k + 1) := by rw [HPT.out]; simp
        exact List.mem_of_mem_take this
      have HMEM := Lib.hid hmem
      clear hpt hr hmem
      by_cases hg : blm.getB s.data.toList r = true
      · rw [hg] at hbit
        have HB := Lib.hid hbit
        have HG := Lib.hid hg
        clear hbit hg
        go_wp2_with (go_at_call 23; refine HB.out.mono ?_; rintro e w3 ⟨rfl, rfl⟩)
        go_round
        case rel => exact ⟨k + 1, by omega, by go_num, by rw [HPT.out, List.all_append, HALL.out, List.all_cons, HG.out]; rfl⟩
        case measure => simp [intOf]; omega
      · have hg' : blm.getB s.data.toList r = false := by simpa using hg
        rw [hg'] at hbit
        have HB := Lib.hid hbit
        have hno : (blm.places name.data.toList m).all (blm.getB s.data.toList) = false := by
          rw [List.all_eq_false]
          exact ⟨r, HMEM.out, by rw [hg']; simp⟩
        have HNO := Lib.hid hno
        clear hbit hg hg' hno
        go_wp2_with (go_at_call 23; refine HB.out.mono ?_; rintro e w3 ⟨rfl, rfl⟩)
        go_ret
        exact ⟨by rw [Hfin.out, HNO.out]; rfl, hb1⟩
    · obtain rfl : k = 4 := by omega
      go_wp2
      go_ret
      have h4 : (blm.places name.data.toList m).take 4 = blm.places name.data.toList m := rfl
      exact ⟨by rw [Hfin.out, ← h4, HALL.out]; rfl, hb1⟩
theorem rmay_any (s name : ByteArray) (w : World) (hs : s.size ≤ 100000) (hn : name.size ≤ 1000000) :
    Calls Tryd.prog 19 #[.string s, .string name] w fun e w' => e = .returned (.bool (blm.may s.data.toList name.data.toList)) ∧ Below w.heap.size w w' := by
  by_cases h : s.size = 0
  · exact rmay_none s name w h
  · exact rmay_some s name w (by omega) hs hn

set_option maxHeartbeats 1000000 in
theorem bounded_any (v : Value) (names : List (List UInt8)) (w : World) (hv : Texts w v names) :
    Calls Tryd.prog 9 #[v] w fun e w' => e = .returned (.bool (decide (names.length ≤ 100) && names.all fun t => decide (t.length ≤ 200))) ∧ w = w' := by
  obtain ⟨⟨A, c, rfl, hA⟩, hl, hm, _⟩ := hv
  obtain ⟨n, hn⟩ : ∃ n, names.length = n := ⟨_, rfl⟩
  rw [hn] at hA hl ⊢
  unfold maxLen at hl
  have Hn := Lib.hid hn
  have HA := Lib.hid hA
  have HM := Lib.hid hm
  clear hn hA hm
  go_enter Tryd.func9, Tryd.ntmps9
  go_wp2
  go_loop [3] (fun i => ∃ k : Nat, k ≤ n ∧ i = .int .i64 k ∧ ((names.take k).all fun t => decide (t.length ≤ 200)) = true) (fun i => n - (intOf i).toNat)
  case atStart => exact ⟨0, Nat.zero_le _, rfl, rfl⟩
  case round =>
    obtain ⟨k, hk, rfl, hall⟩ := hrel
    have HALL := Lib.hid hall
    clear hall
    by_cases hlt : k < n
    · obtain ⟨a1, rfl, c1⟩ := HA.out k hlt
      have hmem : names.getD k [] ∈ names := by
        rw [List.getD_eq_getElem?_getD, List.getElem?_eq_getElem (by rw [Hn.out]; exact hlt)]; exact List.getElem_mem _
      have htm := HM.out _ hmem
      have hsn : names.take (k + 1) = names.take k ++ [names.getD k []] := by
        rw [List.take_add_one, List.getD_eq_getElem?_getD, List.getElem?_eq_getElem (by rw [Hn.out]; exact hlt)]; rfl
      obtain ⟨t, hte⟩ : ∃ t, names.getD k [] = t := ⟨_, rfl⟩
      rw [hte] at c1 htm hsn hmem
      have Hsn := Lib.hid hsn
      have Hmem := Lib.hid hmem
      have hsz : (crcm.mk t).size ≤ 9223372036854775807 := by rw [crcm.mk_size]; unfold maxLen at htm; omega
      clear hte hsn hmem
      by_cases hlong : 200 < t.length
      · have hlong2 : 200 < (crcm.mk t).size := by rw [crcm.mk_size]; exact hlong
        have hno : (names.all fun t => decide (t.length ≤ 200)) = false := by
          rw [List.all_eq_false]
          exact ⟨t, Hmem.out, by simp; exact hlong⟩
        have HNO := Lib.hid hno
        clear hno
        go_wp2
        go_ret
        exact ⟨by rw [HNO.out, Bool.and_false]; rfl, rfl⟩
      · have hshort : (crcm.mk t).size ≤ 200 := by rw [crcm.mk_size]; omega
        have hyes : decide (t.length ≤ 200) = true := by rw [decide_eq_true_iff]; omega
        have Hyes := Lib.hid hyes
        clear hyes
        go_wp2
        go_round
        case rel => exact ⟨k + 1, by omega, by go_num, by rw [Hsn.out, List.all_append, HALL.out, List.all_cons, Hyes.out]; rfl⟩
        case measure => simp [intOf]; omega
    · obtain rfl : k = n := by omega
      have htake : names.take k = names := List.take_of_length_le (by rw [Hn.out]; exact Nat.le_refl _)
      have hall := HALL.out
      rw [htake] at hall
      have HALL2 := Lib.hid hall
      clear htake hall
      go_wp2
      go_ret
      refine ⟨ret_of ?_, rfl⟩
      rw [HALL2.out, Bool.and_true]
      have : (k : Int) ≤ 100 ↔ k ≤ 100 := by omega
      simp [this]
end Go.Proofs.YtckchihdeimgpaaDoor
