/- KfText, KfAsk, KfNewer, KfIts, KfSame: one behind the other. -/
import Derived.WalkKit
import Derived.WalkSmall
import Derived.WalkSpells
import Derived.ProofKit
import Derived.Lib.Hide
import Derived.Deep.SlicePairs
import Derived.Lib.SmallJoins
import Derived.OpenShut
import Derived.Test.YtmcibggjolckoaaGreatDoorG11
import Derived.BigQuiet
import Derived.Deep.QuietTactic
import Derived.RegionTactic
import Derived.Deep.RegionLaw
namespace Go.Proofs.YtmcibggjolckoaaGreatDoor
namespace crcm
end crcm
namespace rl
abbrev Ent := Nat × List UInt8
def e0 : Ent := (0, [])
def lastTerm (ls : List Ent) : Nat := if ls.length = 0 then 0 else (ls.getD (ls.length - 1) e0).1
def termAt (ls : List Ent) (i : Nat) : Nat × Bool := if i = 0 then (0, true) else if ls.length < i then (0, false) else ((ls.getD (i - 1) e0).1, true)
def newer (ls : List Ent) (term i : Nat) : Bool := decide (lastTerm ls < term) || (decide (term = lastTerm ls) && decide (ls.length ≤ i))
/-- how many stand beside one another with the same term -/
def common : List Ent → List Ent → Nat
  | a :: r, b :: q => if a.1 = b.1 then common r q + 1 else 0
  | _, _ => 0
theorem common_le1 (a b : List Ent) : common a b ≤ a.length := by
  induction a generalizing b with
  | nil => simp [common]
  | cons x r ih =>
    cases b with
    | nil => simp [common]
    | cons y q => unfold common; split <;> simp; have := ih q; omega
theorem common_le2 (a b : List Ent) : common a b ≤ b.length := by
  induction a generalizing b with
  | nil => simp [common]
  | cons x r ih =>
    cases b with
    | nil => simp [common]
    | cons y q => unfold common; split <;> simp; have := ih q; omega
theorem common_spec (a b : List Ent) (k : Nat) (h : k < common a b) : (a.getD k e0).1 = (b.getD k e0).1 := by
  induction a generalizing b k with
  | nil => simp [common] at h
  | cons x r ih =>
    cases b with
    | nil => simp [common] at h
    | cons y q =>
      unfold common at h
      split at h
      · cases k with
        | zero => simpa
        | succ k => simpa using ih q k (by omega)
      · omega
theorem common_stop (a b : List Ent) (h1 : common a b < a.length) (h2 : common a b < b.length) : (a.getD (common a b) e0).1 ≠ (b.getD (common a b) e0).1 := by
  induction a generalizing b with
  | nil => simp at h1
  | cons x r ih =>
    cases b with
    | nil => simp at h2
    | cons y q =>
      unfold common at h1 h2 ⊢
      split
      · rename_i e
        rw [if_pos e] at h1 h2
        simp only [List.length_cons] at h1 h2
        simpa using ih q (by omega) (by omega)
      · simpa
/-- .. and it is the one number of which both are true -/
theorem common_eq {a b : List Ent} {n : Nat} (h1 : n ≤ a.length) (h2 : n ≤ b.length) (hs : ∀ k, k < n → (a.getD k e0).1 = (b.getD k e0).1) (hn : n < a.length → n < b.length → (a.getD n e0).1 ≠ (b.getD n e0).1) : common a b = n := by
  have c1 := common_le1 a b
  have c2 := common_le2 a b
  rcases Nat.lt_trichotomy (common a b) n with h | h | h
  · exact absurd (hs _ h) (common_stop a b (by omega) (by omega))
  · exact h
  · exact absurd (common_spec a b n h) (hn (by omega) (by omega))
def match_ (ls : List Ent) (prev pt : Nat) (l : List Ent) : List Ent × Nat × Nat :=
  if termAt ls prev = (pt, true) then
    (if common (ls.drop prev) l < l.length then ls.take (prev + common (ls.drop prev) l) ++ l.drop (common (ls.drop prev) l) else ls, prev + l.length, 0)
  else (ls, 0, 3)
end rl
open Go Go.RowKit Go.Deep
set_option maxRecDepth 100000

theorem slot_u64 {a b : Int} (h : a = b) : Value.int .u64 a = Value.int .u64 b := by rw [h]
/-- the cells from here on hold these entries -/
def EntsAt (w : World) (b o : Nat) (ls : List rl.Ent) : Prop :=
  ∀ k, k < ls.length → w.cell? ⟨b, o + k * 2, none⟩ = some (.int .u64 ((ls.getD k rl.e0).1 : Int)) ∧ w.cell? ⟨b, o + k * 2 + 1, none⟩ = some (.string (crcm.mk (ls.getD k rl.e0).2))
def Fine (ls : List rl.Ent) : Prop := ls.length ≤ maxLen ∧ ∀ x ∈ ls, x.1 < 18446744073709551616 ∧ x.2.length ≤ maxLen
/-- the slice v holds these entries -/
def Ents (w : World) (v : Value) (ls : List rl.Ent) : Prop := ∃ A c, v = .slice A ls.length c ∧ ls.length ≤ c ∧ c ≤ maxLen ∧ (0 < ls.length → ∃ b o, A = some ⟨b, o, none⟩ ∧ EntsAt w b o ls)
theorem EntsAt.below {w w' : World} {b o : Nat} {ls : List rl.Ent} (h : EntsAt w b o ls) (hb : Below w.heap.size w w') : EntsAt w' b o ls := fun k hk => ⟨cell_later hb (h k hk).1, cell_later hb (h k hk).2⟩
theorem Ents.below {w w' : World} {v : Value} {ls : List rl.Ent} (h : Ents w v ls) (hb : Below w.heap.size w w') : Ents w' v ls := by
  obtain ⟨A, c, e, hl, hm, h0⟩ := h
  exact ⟨A, c, e, hl, hm, fun h => by obtain ⟨b, o, e, hc⟩ := h0 h; exact ⟨b, o, e, hc.below hb⟩⟩
theorem add_zero (a : Addr) : a.add 0 = a := by simp [Addr.add]
theorem spot_none {w : World} {a : Addr} {v : Value} (h : w.cell? a = some v) : a = ⟨a.block, a.off, none⟩ := by
  obtain ⟨b, o, sp⟩ := a
  cases sp with
  | none => rfl
  | some x =>
    simp only [World.cell?] at h
    split at h
    · simp at h
    · cases h
theorem addr_add (b o n : Nat) : (⟨b, o, none⟩ : Addr).add n = ⟨b, o + n, none⟩ := by unfold Addr.add; split <;> simp_all

/-- what comes in as a slice of entries -/
theorem ents_of_reading {H : Type} {enc : TypeId × Value → H} {P : Program} {w : World} {base : Nat} {held : Bool} {t e tt ts : TypeId} {fuel : Nat} {v : Value} {x : DataW H × List MemPlace}
    {f0 f1 : Field} (ht : P.underlying t = some (.slice e)) (he : P.underlying e = some (.struct #[f0, f1])) (ce : P.cellsOf e = 2) (o0 : f0.offset = 0) (o1 : f1.offset = 1) (c0 : P.cellsOf f0.type = 1) (c1 : P.cellsOf f1.type = 1)
    (e0 : f0.type = tt) (e1 : f1.type = ts) (u0 : P.underlying tt = some (.int .u64)) (u1 : P.underlying ts = some .string)
    (h : DataW.trod enc P w base (fun _ => true) held fuel t [v] = some x) : ∃ ls, Ents w v ls ∧ Fine ls := by
  rcases open_slice_pairs ht he ce o0 o1 c0 c1 h with ⟨hcs, _⟩ | ⟨a, len, cap, m, n, V0, V1, D0, D1, P0, P1, hcs, _, hl, hm, hz, _, hcell⟩
  · obtain rfl : v = .slice none 0 0 := by simpa using hcs
    exact ⟨[], ⟨none, 0, rfl, Nat.le_refl _, Nat.zero_le _, fun h => absurd h (by simp)⟩, Nat.zero_le _, fun x hx => by cases hx⟩
  · obtain rfl : v = .slice (some a) len cap := by simpa using hcs
    simp only [if_true] at hz
    have each : ∀ i, i < len → ∃ q : rl.Ent, V0 i = .int .u64 (q.1 : Int) ∧ V1 i = .string (crcm.mk q.2) ∧ q.1 < 18446744073709551616 ∧ q.2.length ≤ maxLen := by
      intro i hi
      obtain ⟨_, _, g0, g1⟩ := hcell i (by omega)
      rw [e0] at g0
      rw [e1] at g1
      obtain ⟨z, hz1, _, hw⟩ := DataW.trod_int u0 g0
      obtain ⟨s, hs1, _, hs2⟩ := DataW.trod_string u1 g1
      have hb := bounds_u64 hw
      obtain ⟨q, rfl⟩ := Int.eq_ofNat_of_zero_le hb.1
      refine ⟨(q, s.data.toList), by simpa using hz1, by rw [crcm.mk_of]; simpa using hs1, by simp at hb ⊢; omega, by rw [crcm.size_len]; exact hs2⟩
    obtain ⟨q, hq⟩ := choose_lt each
    have hlen : ((List.range len).map q).length = len := by simp
    have hget : ∀ k, k < len → ((List.range len).map q).getD k rl.e0 = q k := fun k hk => by
      rw [List.getD_eq_getElem?_getD, List.getElem?_map, List.getElem?_range hk]; rfl
    refine ⟨(List.range len).map q, ⟨some a, cap, by rw [hlen], by rw [hlen]; exact hl, hm, fun h0 => ?_⟩, by rw [hlen]; omega, fun x hx => ?_⟩
    · rw [hlen] at h0
      have ha := (hcell 0 (by omega)).1
      rw [Nat.zero_mul, add_zero] at ha
      have hsp := spot_none ha
      refine ⟨a.block, a.off, by rw [← hsp], fun k hk => ?_⟩
      rw [hlen] at hk
      rw [hget k hk]
      obtain ⟨h0, h1, _⟩ := hcell k (by omega)
      rw [hsp, addr_add] at h0 h1
      rw [h0, ← Nat.add_assoc] at *
      rw [h1, (hq k hk).1, (hq k hk).2.1]
      exact ⟨rfl, rfl⟩
    · obtain ⟨k, hk, rfl⟩ := List.mem_map.1 hx
      exact ⟨(hq k (List.mem_range.1 hk)).2.2.1, (hq k (List.mem_range.1 hk)).2.2.2⟩
end Go.Proofs.YtmcibggjolckoaaGreatDoor
namespace Go.Proofs.YtmcibggjolckoaaGreatDoor
open Go Go.RowKit
set_option maxRecDepth 100000

def okEnts (ls : List rl.Ent) : Bool := decide (ls.length ≤ 40) && ls.all fun t => decide (t.2.length ≤ 200)
theorem getD_mem {ls : List rl.Ent} {k : Nat} (h : k < ls.length) : ls.getD k rl.e0 ∈ ls := by
  rw [List.getD_eq_getElem?_getD, List.getElem?_eq_getElem h]; exact List.getElem_mem _
theorem take_snoc {ls : List rl.Ent} {k : Nat} (h : k < ls.length) : ls.take (k + 1) = ls.take k ++ [ls.getD k rl.e0] := by
  rw [List.take_add_one, List.getD_eq_getElem?_getD, List.getElem?_eq_getElem h]; rfl
theorem wrap_u64_in {n : Int} (h0 : 0 ≤ n) (h1 : n < 18446744073709551616) : IntKind.u64.wrap n = n := by simp [IntKind.wrap, IntKind.bits, IntKind.signed]; omega
/-- a state's value -/
def stV (T : Nat) (V : Int) (v : Value) : Value := .agg #[.int .u64 (T : Int), .int .i64 V, v]
theorem box_cells (w : World) (a b c : Value) (t : TypeId) : (w.alloc (.cells #[a, b, c] t)).cell? ⟨w.heap.size, 0, none⟩ = some a ∧ (w.alloc (.cells #[a, b, c] t)).cell? ⟨w.heap.size, 1, none⟩ = some b ∧ (w.alloc (.cells #[a, b, c] t)).cell? ⟨w.heap.size, 2, none⟩ = some c := by
  have h := heap_alloc_new w (.cells #[a, b, c] t)
  exact ⟨cell_of_row _ _ 0 _ _ _ h, cell_of_row _ _ 1 _ _ _ h, cell_of_row _ _ 2 _ _ _ h⟩
theorem termAt_any (T : Nat) (V : Int) (v : Value) (ls : List rl.Ent) (i : Nat) (w : World) (hv : Ents w v ls) (hl : ls.length ≤ 1000000) (hi : i < 18446744073709551616) :
    Calls Tryz.prog 78 #[stV T V v, .int .u64 (i : Int)] w fun e w' => e = .returned (.tuple #[.int .u64 ((rl.termAt ls i).1 : Nat), .bool (rl.termAt ls i).2]) ∧ Below w.heap.size w w' := by
  obtain ⟨A, c, rfl, hc, hcm, h0⟩ := hv
  obtain ⟨n, hn⟩ : ∃ n, ls.length = n := ⟨_, rfl⟩
  have Hn := Lib.hid hn
  rw [hn] at hl h0 hc ⊢
  clear hn
  unfold stV
  have hb : Below w.heap.size w (w.alloc (.cells #[.int .u64 (T : Int), .int .i64 V, .slice A n c] 46)) := (Below.refl _ _).alloc (Nat.le_refl _) _
  have Hb := Lib.hid hb
  obtain ⟨b0, b1, b2⟩ := box_cells w (.int .u64 (T : Int)) (.int .i64 V) (.slice A n c) 46
  by_cases hz : i = 0
  · subst hz
    have hfin : rl.termAt ls 0 = (0, true) := rfl
    rw [hfin]
    clear hfin h0
    go_enter Tryz.func78, Tryz.ntmps78
    go_wp2
    go_ret2
    exact ⟨rfl, hb⟩
  · by_cases hlt : n < i
    · have hfin : rl.termAt ls i = (0, false) := by unfold rl.termAt; rw [if_neg hz, if_pos (by rw [Hn.out]; exact hlt)]
      rw [hfin]
      have hzz : ((i : Int) == 0) = false := by rw [beq_eq_false_iff_ne]; omega
      clear hfin h0
      go_enter Tryz.func78, Tryz.ntmps78
      go_wp2
      go_ret2
      exact ⟨rfl, hb⟩
    · obtain ⟨k, rfl⟩ : ∃ k, i = k + 1 := ⟨i - 1, by omega⟩
      have hfin : rl.termAt ls (k + 1) = ((ls.getD k rl.e0).1, true) := by unfold rl.termAt; rw [if_neg hz, if_neg (by rw [Hn.out]; exact hlt)]; rfl
      rw [hfin]
      obtain ⟨b, o, rfl, hA⟩ := h0 (by omega)
      obtain ⟨c0, c1⟩ := hA k (by rw [Hn.out]; omega)
      have c0' := cell_later hb c0
      have hzz : (((k + 1 : Nat) : Int) == 0) = false := by rw [beq_eq_false_iff_ne]; omega
      have hk1 : ((k + 1 : Nat) : Int) - 1 = (k : Int) := by omega
      have hk2 : IntKind.u64.wrap (((k + 1 : Nat) : Int) - 1) = (k : Int) := by rw [hk1]; exact wrap_u64_in (by omega) (by omega)
      clear hfin hA h0 c0 c1 hb
      obtain ⟨t, ht⟩ : ∃ t, ls.getD k rl.e0 = t := ⟨_, rfl⟩
      rw [ht] at c0' ⊢
      clear ht
      go_enter Tryz.func78, Tryz.ntmps78
      go_wp2
      go_ret2
      exact ⟨rfl, Hb.out⟩

theorem last_any (T : Nat) (V : Int) (v : Value) (ls : List rl.Ent) (w : World) (hv : Ents w v ls) (hl : ls.length ≤ 1000000) :
    Calls Tryz.prog 67 #[stV T V v] w fun e w' => e = .returned (.tuple #[.int .u64 (ls.length : Nat), .int .u64 (rl.lastTerm ls : Nat)]) ∧ Below w.heap.size w w' := by
  obtain ⟨A, c, rfl, hc, hcm, h0⟩ := hv
  obtain ⟨n, hn⟩ : ∃ n, ls.length = n := ⟨_, rfl⟩
  have Hn := Lib.hid hn
  rw [hn] at hl h0 hc ⊢
  clear hn
  unfold stV
  have hb : Below w.heap.size w (w.alloc (.cells #[.int .u64 (T : Int), .int .i64 V, .slice A n c] 46)) := (Below.refl _ _).alloc (Nat.le_refl _) _
  have Hb := Lib.hid hb
  obtain ⟨b0, b1, b2⟩ := box_cells w (.int .u64 (T : Int)) (.int .i64 V) (.slice A n c) 46
  by_cases hz : n = 0
  · subst hz
    have hfin : rl.lastTerm ls = 0 := by unfold rl.lastTerm; rw [if_pos Hn.out]
    rw [hfin]
    clear hfin h0
    go_enter Tryz.func67, Tryz.ntmps67
    go_wp2
    go_ret2
    exact ⟨rfl, hb⟩
  · obtain ⟨k, hk⟩ : ∃ k, n = k + 1 := ⟨n - 1, by omega⟩
    have hfin : rl.lastTerm ls = (ls.getD k rl.e0).1 := by unfold rl.lastTerm; rw [Hn.out, if_neg hz, hk]; rfl
    rw [hfin]
    obtain ⟨b, o, rfl, hA⟩ := h0 (by omega)
    obtain ⟨c0, c1⟩ := hA k (by rw [Hn.out]; omega)
    have c0' := cell_later hb c0
    have hzz : ((n : Int) == 0) = false := by rw [beq_eq_false_iff_ne]; omega
    have hk1 : (n : Int) - 1 = (k : Int) := by omega
    have hk2 : IntKind.i64.wrap ((n : Int) - 1) = (k : Int) := by rw [hk1]; simp [IntKind.wrap, IntKind.bits, IntKind.signed]; omega
    have hkn : (k : Int) < (n : Int) := by omega
    clear hfin hA h0 c0 c1 hb hk
    obtain ⟨t, ht⟩ : ∃ t, ls.getD k rl.e0 = t := ⟨_, rfl⟩
    rw [ht] at c0' ⊢
    clear ht
    go_enter Tryz.func67, Tryz.ntmps67
    go_wp2
    go_quiet (fail)
    go_wp2
    go_ret2
    exact ⟨rfl, below_drewN Hb.out _⟩
end Go.Proofs.YtmcibggjolckoaaGreatDoor
namespace Go.Proofs.YtmcibggjolckoaaGreatDoor
open Go Go.RowKit
set_option maxRecDepth 100000

def cmpV (a b : Nat) : Int := if a < b then -1 else if b < a then 1 else 0
theorem isnan_any (a : Nat) (w : World) : Calls Tryz.prog 118 #[.int .u64 (a : Int)] w fun e w' => e = .returned (.bool false) ∧ w = w' := by
  have h : ((a : Int) != (a : Int)) = false := by simp
  go_enter Tryz.func118, Tryz.ntmps118
  go_wp2
  go_ret
  exact ⟨rfl, rfl⟩
theorem compare_any (a b : Nat) (w : World) : Calls Tryz.prog 106 #[.int .u64 (a : Int), .int .u64 (b : Int)] w fun e w' => e = .returned (.int .i64 (cmpV a b)) ∧ w = w' := by
  unfold cmpV
  by_cases h1 : a < b
  · rw [if_pos h1]
    go_enter Tryz.func106, Tryz.ntmps106
    go_wp2_with (go_at_call 118; refine (isnan_any _ _).mono ?_; rintro e w1 ⟨rfl, rfl⟩)
    go_ret
    exact ⟨rfl, rfl⟩
  · rw [if_neg h1]
    by_cases h2 : b < a
    · rw [if_pos h2]
      go_enter Tryz.func106, Tryz.ntmps106
      go_wp2_with (go_at_call 118; refine (isnan_any _ _).mono ?_; rintro e w1 ⟨rfl, rfl⟩)
      go_ret
      exact ⟨rfl, rfl⟩
    · rw [if_neg h2]
      go_enter Tryz.func106, Tryz.ntmps106
      go_wp2_with (go_at_call 118; refine (isnan_any _ _).mono ?_; rintro e w1 ⟨rfl, rfl⟩)
      go_ret
      exact ⟨rfl, rfl⟩
theorem or_any (x y : Int) (g : Nat) (w : World) (h0 : w.cell? ⟨g, 0, none⟩ = some (.int .i64 x)) (h1 : w.cell? ⟨g, 1, none⟩ = some (.int .i64 y)) :
    Calls Tryz.prog 105 #[.slice (some ⟨g, 0, none⟩) 2 2] w fun e w' => e = .returned (.int .i64 (if x = 0 then y else x)) ∧ w = w' := by
  by_cases hx : x = 0
  · subst hx
    rw [if_pos rfl]
    by_cases hy : y = 0
    · subst hy
      go_enter Tryz.func105, Tryz.ntmps105
      go_wp2
      refine wp_loop_rounds 3 ?_
      rw [rounds_succ]
      go_wp2
      rw [rounds_succ]
      go_wp2
      rw [rounds_succ]
      go_wp2
      go_ret
      exact ⟨rfl, rfl⟩
    · have hy' : (y != 0) = true := by rw [bne_iff_ne]; exact hy
      go_enter Tryz.func105, Tryz.ntmps105
      go_wp2
      refine wp_loop_rounds 3 ?_
      rw [rounds_succ]
      go_wp2
      rw [rounds_succ]
      go_wp2
      go_ret
      exact ⟨rfl, rfl⟩
  · rw [if_neg hx]
    have hx' : (x != 0) = true := by rw [bne_iff_ne]; exact hx
    go_enter Tryz.func105, Tryz.ntmps105
    go_wp2
    refine wp_loop_rounds 3 ?_
    rw [rounds_succ]
    go_wp2
    go_ret
    exact ⟨rfl, rfl⟩
theorem box2_cells (w : World) (a b : Value) (t : TypeId) : (w.alloc (.cells #[a, b] t)).cell? ⟨w.heap.size, 0, none⟩ = some a ∧ (w.alloc (.cells #[a, b] t)).cell? ⟨w.heap.size, 1, none⟩ = some b := by
  have h := heap_alloc_new w (.cells #[a, b] t)
  exact ⟨cell_of_row _ _ 0 _ _ _ h, cell_of_row _ _ 1 _ _ _ h⟩
theorem newer_cmp (ls : List rl.Ent) (term i : Nat) : decide ((0 : Int) ≤ if cmpV term (rl.lastTerm ls) = 0 then cmpV i ls.length else cmpV term (rl.lastTerm ls)) = rl.newer ls term i := by
  unfold rl.newer cmpV
  obtain ⟨x, hx⟩ : ∃ x, rl.lastTerm ls = x := ⟨_, rfl⟩
  rw [hx]
  by_cases h1 : term < x
  · have a1 : ¬ x < term := by omega
    have a2 : ¬ term = x := by omega
    simp [h1, a1, a2]
  · by_cases h2 : x < term
    · simp [h1, h2]
    · have a2 : term = x := by omega
      subst a2
      simp
      by_cases h3 : i < ls.length
      · have : ¬ ls.length ≤ i := by omega
        simp [h3, this]
      · by_cases h4 : ls.length < i
        · have : ls.length ≤ i := by omega
          simp [h3, h4, this]
        · have : ls.length ≤ i := by omega
          simp [h3, h4, this]
theorem newer_any (T : Nat) (V : Int) (v : Value) (ls : List rl.Ent) (term i : Nat) (w : World) (hv : Ents w v ls) (hl : ls.length ≤ 1000000) :
    Calls Tryz.prog 82 #[stV T V v, .int .u64 (term : Int), .int .u64 (i : Int)] w fun e w' => e = .returned (.bool (rl.newer ls term i)) ∧ Below w.heap.size w w' := by
  have hfin := newer_cmp ls term i
  obtain ⟨b0, b1, b2⟩ := box_cells w (.int .u64 (T : Int)) (.int .i64 V) v 46
  have hb : Below w.heap.size w (w.alloc (.cells #[.int .u64 (T : Int), .int .i64 V, v] 46)) := (Below.refl _ _).alloc (Nat.le_refl _) _
  have hla := last_any T V v ls _ (hv.below hb) hl
  have Hfin := Lib.hid hfin
  have HLA := Lib.hid hla
  have Hb := Lib.hid hb
  have Hv := Lib.hid hv
  clear hfin hla hv
  unfold stV at *
  go_enter Tryz.func82, Tryz.ntmps82
  go_wp2_with fail
  refine HLA.out.mono ?_
  rintro e w1 ⟨rfl, hb1⟩
  have HB1 := Lib.hid (Hb.out.trans (hb1.mono Hb.out.size))
  clear hb1
  go_wp2_with fail
  refine (compare_any _ _ _).mono ?_
  rintro e w2 ⟨rfl, rfl⟩
  go_wp2_with fail
  refine (compare_any _ _ _).mono ?_
  rintro e w2 ⟨rfl, rfl⟩
  have hpos := Hfin.out
  obtain ⟨x, hx⟩ : ∃ x, cmpV term (rl.lastTerm ls) = x := ⟨_, rfl⟩
  obtain ⟨y, hy⟩ : ∃ y, cmpV i ls.length = y := ⟨_, rfl⟩
  rw [hx, hy] at hpos
  simp only [hx, hy]
  obtain ⟨c0, c1⟩ := box2_cells w1 (.int .i64 x) (.int .i64 y) 3
  have hor := or_any x y _ _ c0 c1
  have HOR := Lib.hid hor
  have HP := Lib.hid hpos
  clear hx hy hor hpos
  go_wp2_with fail
  refine HOR.out.mono ?_
  rintro e w3 ⟨rfl, rfl⟩
  obtain ⟨z, hz⟩ : ∃ z, (if x = 0 then y else x) = z := ⟨_, rfl⟩
  have hp2 := HP.out
  rw [hz] at hp2 ⊢
  clear hz
  have HP2 := Lib.hid hp2
  clear hp2
  go_wp2
  go_ret
  exact ⟨ret_of (by rw [← HP2.out]; rfl), HB1.out.alloc (by have := HB1.out.size; simpa using this) _⟩

end Go.Proofs.YtmcibggjolckoaaGreatDoor
namespace Go.Proofs.YtmcibggjolckoaaGreatDoor
open Go Go.RowKit
set_option maxRecDepth 100000

/-- block g holds just these -/
def Blk (w : World) (g : Nat) (vs : List Value) (t : TypeId) : Prop := w.heap[g]? = some (.cells vs.toArray t (0, 0))
theorem Blk.cell {w : World} {g : Nat} {vs : List Value} {t : TypeId} (h : Blk w g vs t) (j : Nat) (u : Value) (hj : vs[j]? = some u) : w.cell? ⟨g, j, none⟩ = some u := by
  rw [cell_of_row w g j _ _ (0, 0) h]; simpa using hj
theorem Blk.free {w : World} {g : Nat} {vs : List Value} {t : TypeId} (h : Blk w g vs t) (j : Nat) : w.frozen? ⟨g, j, none⟩ = false := by
  unfold Blk at h; simp [World.frozen?, h]
theorem Blk.lt {w : World} {g : Nat} {vs : List Value} {t : TypeId} (h : Blk w g vs t) : g < w.heap.size := (Array.getElem?_eq_some_iff.1 h).1
theorem Blk.set {w : World} {g : Nat} {vs : List Value} {t : TypeId} (h : Blk w g vs t) (j : Nat) (u : Value) : Blk (w.setCell ⟨g, j, none⟩ u) g (vs.set j u) t := by
  unfold Blk at h ⊢
  simp only [World.setCell, Array.getElem?_modify, h, if_true]
  simp
theorem Blk.other {w : World} {g : Nat} {vs : List Value} {t : TypeId} (h : Blk w g vs t) (a : Addr) (u : Value) (hne : g ≠ a.block) : Blk (w.setCell a u) g vs t := by
  unfold Blk at h ⊢
  rw [← h]
  exact Below.heap_setCell _ _ _ _ hne
theorem Blk.grown {w w' : World} {g : Nat} {vs : List Value} {t : TypeId} {row : Option Nat} (h : Blk w g vs t) (hg : w.grownBy w' row) (hne : some g ≠ row) : Blk w' g vs t := (hg.block g h.lt hne).trans h
theorem Blk.alloc {w : World} {g : Nat} {vs : List Value} {t : TypeId} (h : Blk w g vs t) (o : Obj) : Blk (w.alloc o) g vs t := h.grown (World.grownBy_alloc w o none) (by simp)
theorem Blk.new (w : World) (vs : List Value) (t : TypeId) : Blk (w.alloc (.cells vs.toArray t)) w.heap.size vs t := heap_alloc_new w _
theorem Blk.below {w w' : World} {g : Nat} {vs : List Value} {t : TypeId} (h : Blk w g vs t) (hb : Below w.heap.size w w') : Blk w' g vs t := (hb.block g h.lt).trans h

/-- the cells of entries, one behind the other -/
def entCells (ls : List rl.Ent) : List Value := ls.flatMap fun t => [.int .u64 (t.1 : Int), .string (crcm.mk t.2)]
theorem entCells_append (a b : List rl.Ent) : entCells (a ++ b) = entCells a ++ entCells b := by unfold entCells; rw [List.flatMap_append]
theorem entCells_len (a : List rl.Ent) : (entCells a).length = a.length * 2 := by
  induction a with
  | nil => rfl
  | cons x r ih => rw [show x :: r = [x] ++ r from rfl, entCells_append, List.length_append, ih]; simp [entCells]; omega
theorem entCells_one (a : List rl.Ent) : ∀ u ∈ entCells a, u.oneCell' = true := by
  intro u hu
  obtain ⟨t, _, ht⟩ := List.mem_flatMap.1 hu
  simp at ht
  rcases ht with rfl | rfl <;> rfl
theorem entCells_get (ls : List rl.Ent) (k : Nat) (h : k < ls.length) : (entCells ls)[k * 2]? = some (.int .u64 ((ls.getD k rl.e0).1 : Int)) ∧ (entCells ls)[k * 2 + 1]? = some (.string (crcm.mk (ls.getD k rl.e0).2)) := by
  induction ls generalizing k with
  | nil => simp at h
  | cons x r ih =>
    rw [show x :: r = [x] ++ r from rfl, entCells_append]
    cases k with
    | zero => exact ⟨rfl, rfl⟩
    | succ k =>
      have hl : (entCells [x]).length = 2 := rfl
      have := ih k (by simpa using h)
      rw [List.getElem?_append_right (by rw [hl]; omega), List.getElem?_append_right (by rw [hl]; omega), hl]
      rw [show (k + 1) * 2 - 2 = k * 2 from by omega, show (k + 1) * 2 + 1 - 2 = k * 2 + 1 from by omega]
      exact this
/-- a row of the call's own is a slice of entries -/
theorem ents_of_owns {w : World} {base : Nat} {e : TypeId} {v : Value} {ls : List rl.Ent} (h : w.ownsRow base e 2 v ls.length (entCells ls)) : Ents w v ls := by
  rcases h.2 with ⟨rfl, h0⟩ | ⟨g, cap, cur, rfl, hg, hh, hcap, hmax, hcur, hrest⟩
  · exact ⟨none, 0, by rw [h0], by omega, by unfold maxLen; omega, fun h => by omega⟩
  · refine ⟨_, cap, rfl, by omega, by omega, fun _ => ⟨g, 0, rfl, fun k hk => ?_⟩⟩
    obtain ⟨h0, h1⟩ := entCells_get ls k hk
    have e0 := h.cells (g := g) rfl _ _ h0
    have e1 := h.cells (g := g) rfl _ _ h1
    rw [addr_add] at e0 e1
    exact ⟨e0, by rw [Nat.add_assoc]; exact e1⟩

/-- append to a row of the call's own, as one step of a region that draws -/
theorem step_append_own {P : Program} {ops : Array Oper} {o : Oper} {a : Act} {w : World} {K : Act → World → Prop} {Q : Exit → Act → World → Prop} {E : Prop}
    (hg : o.guard = none) (s x : Operand) (t : TypeId) (hop : o.op = Op.call { callee := Callee.builtin Builtin.append, args := #[s, x], argTypes := #[t, t] })
    (base : Nat) (e : TypeId) (i : TypeInfo) (z : Value) (size bytes : Nat) (h1 : P.underlying t = some (.slice e)) (h2 : P.info? e = some i) (h3 : i.zero = some z) (h4 : i.size = size) (h5 : i.bytes = bytes) (h6 : z.cells.size = size) (h7 : 0 < size)
    (v : Value) (n : Nat) (xs : List Value) (hs : a.eval s = v) (hown : w.ownsRow base e size v n xs)
    (ad : Addr) (m c : Nat) (news : List Value) (hx : a.eval x = .slice (some ad) m c) (hn : news.length = m * size) (hc : ∀ j u, news[j]? = some u → w.cell? (ad.add j) = some u) (h1c : ∀ u ∈ news, u.oneCell' = true)
    (b1 : n + m ≤ maxLen) (b2 : (n + m) * bytes ≤ 140737488355328) (hbase : base ≤ w.heap.size)
    (hK : ∀ v' w', w'.ownsRow base e size v' (n + m) (xs ++ news) → w.grownBy w' v.ownBlock → K (a.put o.dst v') w') :
    if Region.wanted o (yielded ops a.tmps) = true then Oper.wp P o a w K Q else E := by
  have hw : Region.wanted o (yielded ops a.tmps) = true := by simp [Region.wanted, hg]
  rw [if_pos hw]
  obtain ⟨v', w', hrun, r1, r2, _⟩ := run_append_own (P := P) w base t o.type e i z size bytes h1 h2 h3 h4 h5 h6 h7 v n xs hown ad m c news hn hc h1c b1 b2 hbase
  unfold Oper.wp
  simp [execOp, hop, resolve, invoke, builtin, hs, hx, hrun, Result.andThen]
  exact hK v' w' r1 r2
theorem cells_new2 (w : World) (x y : Value) (e : TypeId) : ∀ j u, [x, y][j]? = some u → (w.alloc (.cells #[x, y] e)).cell? ((⟨w.heap.size, 0, none⟩ : Addr).add j) = some u := by
  intro j u hj
  have h := heap_alloc_new w (.cells #[x, y] e)
  rw [addr_add, cell_of_row _ _ _ _ _ _ h]
  simpa using hj

theorem set_grown (w : World) (a : Addr) (v : Value) : w.grownBy (w.setCell a v) (some a.block) := ⟨rfl, rfl, rfl, by simp [World.setCell], fun k _ hne => Below.heap_setCell _ _ _ k (fun e => hne (by rw [e]))⟩
theorem grown_trans {a b c : World} {row : Option Nat} (h : a.grownBy b row) (k : b.grownBy c row) : a.grownBy c row :=
  ⟨k.os.trans h.os, k.tape.trans h.tape, k.output.trans h.output, Nat.le_trans h.size k.size, fun i hi hne => (k.block i (Nat.lt_of_lt_of_le hi h.size) hne).trans (h.block i hi hne)⟩
theorem state_size : (Tryz.prog.info? 46).map (·.size) = some 3 := by kernel_rfl
theorem owns_slice {w : World} {base : Nat} {e : TypeId} {size n : Nat} {v : Value} {xs : List Value} (h : w.ownsRow base e size v n xs) : ∃ A c, v = .slice A n c := by
  rcases h.2 with ⟨rfl, h0⟩ | ⟨g, cap, cur, rfl, _⟩
  · exact ⟨none, 0, by rw [h0]⟩
  · exact ⟨_, _, rfl⟩

end Go.Proofs.YtmcibggjolckoaaGreatDoor
namespace Go.Proofs.YtmcibggjolckoaaGreatDoor
open Go Go.RowKit
set_option maxRecDepth 100000

theorem ents_ext {la lb : List rl.Ent} (hl : la.length = lb.length) (h : ∀ k, k < la.length → la.getD k rl.e0 = lb.getD k rl.e0) : la = lb := by
  apply List.ext_getElem hl
  intro k h1 h2
  have := h k h1
  rwa [List.getD_eq_getElem?_getD, List.getD_eq_getElem?_getD, List.getElem?_eq_getElem h1, List.getElem?_eq_getElem h2] at this

theorem below_two (w : World) (vs us : List Value) (t u : TypeId) : Below w.heap.size w ((w.alloc (.cells vs.toArray t)).alloc (.cells us.toArray u)) :=
  ((Below.refl _ w).alloc (Nat.le_refl _) _).alloc (by simp) _
end Go.Proofs.YtmcibggjolckoaaGreatDoor
