/- The logs as plain lists, and how they lie in memory: a slice of pairs (a term, a text). -/
import Derived.WalkKit
import Derived.WalkSmall
import Derived.WalkSpells
import Derived.ProofKit
import Derived.Lib.Hide
import Derived.Deep.SlicePairs
import Derived.Lib.SmallJoins
import Derived.OpenShut
import Derived.Test.YtkoidphhlfjlhaaProg
namespace Go.Proofs.Ytkoidphhlfjlhaa
namespace crcm
/-- a string of these bytes -/
def mk (l : List UInt8) : ByteArray := ⟨l.toArray⟩
theorem mk_toList (l : List UInt8) : (mk l).data.toList = l := rfl
theorem mk_size (l : List UInt8) : (mk l).size = l.length := by simp [mk, ByteArray.size]
theorem mk_of (s : ByteArray) : mk s.data.toList = s := by unfold mk; simp
theorem mk_append (a b : List UInt8) : mk a ++ mk b = mk (a ++ b) := by
  rw [← mk_of (mk a ++ mk b)]
  congr 1
theorem mk_inj {a b : List UInt8} (h : mk a = mk b) : a = b := by rw [← mk_toList a, h, mk_toList]
theorem size_len (s : ByteArray) : s.data.toList.length = s.size := by rw [Array.length_toList]; rfl
end crcm
namespace rl
abbrev Ent := Nat × List UInt8
def e0 : Ent := (0, [])
def lastTerm (ls : List Ent) : Nat := if ls.length = 0 then 0 else (ls.getD (ls.length - 1) e0).1
def termAt (ls : List Ent) (i : Nat) : Nat × Bool := if i = 0 then (0, true) else if ls.length < i then (0, false) else ((ls.getD (i - 1) e0).1, true)
def newer (ls : List Ent) (term i : Nat) : Bool := decide (lastTerm ls < term) || (decide (term = lastTerm ls) && decide (ls.length ≤ i))
/-- how many stand beside one another with the same term -/
def common : List Ent → List Ent → Nat
  | a :: r, b :: q => if a.1 = b.1 then common r q + 1 else 0
  | _, _ => 0
theorem common_le1 (a b : List Ent) : common a b ≤ a.length := by
  induction a generalizing b with
  | nil => simp [common]
  | cons x r ih =>
    cases b with
    | nil => simp [common]
    | cons y q => unfold common; split <;> simp; have := ih q; omega
theorem common_le2 (a b : List Ent) : common a b ≤ b.length := by
  induction a generalizing b with
  | nil => simp [common]
  | cons x r ih =>
    cases b with
    | nil => simp [common]
    | cons y q => unfold common; split <;> simp; have := ih q; omega
theorem common_spec (a b : List Ent) (k : Nat) (h : k < common a b) : (a.getD k e0).1 = (b.getD k e0).1 := by
  induction a generalizing b k with
  | nil => simp [common] at h
  | cons x r ih =>
    cases b with
    | nil => simp [common] at h
    | cons y q =>
      unfold common at h
      split at h
      · cases k with
        | zero => simpa
        | succ k => simpa using ih q k (by omega)
      · omega
theorem common_stop (a b : List Ent) (h1 : common a b < a.length) (h2 : common a b < b.length) : (a.getD (common a b) e0).1 ≠ (b.getD (common a b) e0).1 := by
  induction a generalizing b with
  | nil => simp at h1
  | cons x r ih =>
    cases b with
    | nil => simp at h2
    | cons y q =>
      unfold common at h1 h2 ⊢
      split
      · rename_i e
        rw [if_pos e] at h1 h2
        simp only [List.length_cons] at h1 h2
        simpa using ih q (by omega) (by omega)
      · simpa
/-- .. and it is the one number of which both are true -/
theorem common_eq {a b : List Ent} {n : Nat} (h1 : n ≤ a.length) (h2 : n ≤ b.length) (hs : ∀ k, k < n → (a.getD k e0).1 = (b.getD k e0).1) (hn : n < a.length → n < b.length → (a.getD n e0).1 ≠ (b.getD n e0).1) : common a b = n := by
  have c1 := common_le1 a b
  have c2 := common_le2 a b
  rcases Nat.lt_trichotomy (common a b) n with h | h | h
  · exact absurd (hs _ h) (common_stop a b (by omega) (by omega))
  · exact h
  · exact absurd (common_spec a b n h) (hn (by omega) (by omega))
def match_ (ls : List Ent) (prev pt : Nat) (l : List Ent) : List Ent × Nat × Nat :=
  if termAt ls prev = (pt, true) then
    (if common (ls.drop prev) l < l.length then ls.take (prev + common (ls.drop prev) l) ++ l.drop (common (ls.drop prev) l) else ls, prev + l.length, 0)
  else (ls, 0, 3)
end rl
open Go Go.RowKit Go.Deep

theorem slot_i64 {a b : Int} (h : a = b) : Value.int .i64 a = Value.int .i64 b := by rw [h]
theorem slot_u64 {a b : Int} (h : a = b) : Value.int .u64 a = Value.int .u64 b := by rw [h]
theorem ret_of {a b : Value} (h : a = b) : Ending.returned a = Ending.returned b := by rw [h]

/-- the cells from here on hold these entries -/
def EntsAt (w : World) (b o : Nat) (ls : List rl.Ent) : Prop :=
  ∀ k, k < ls.length → w.cell? ⟨b, o + k * 2, none⟩ = some (.int .u64 ((ls.getD k rl.e0).1 : Int)) ∧ w.cell? ⟨b, o + k * 2 + 1, none⟩ = some (.string (crcm.mk (ls.getD k rl.e0).2))
def Fine (ls : List rl.Ent) : Prop := ls.length ≤ maxLen ∧ ∀ x ∈ ls, x.1 < 18446744073709551616 ∧ x.2.length ≤ maxLen
/-- the slice v holds these entries -/
def Ents (w : World) (v : Value) (ls : List rl.Ent) : Prop := ∃ A c, v = .slice A ls.length c ∧ ls.length ≤ c ∧ c ≤ maxLen ∧ (0 < ls.length → ∃ b o, A = some ⟨b, o, none⟩ ∧ EntsAt w b o ls)
theorem EntsAt.below {w w' : World} {b o : Nat} {ls : List rl.Ent} (h : EntsAt w b o ls) (hb : Below w.heap.size w w') : EntsAt w' b o ls := fun k hk => ⟨cell_later hb (h k hk).1, cell_later hb (h k hk).2⟩
theorem Ents.below {w w' : World} {v : Value} {ls : List rl.Ent} (h : Ents w v ls) (hb : Below w.heap.size w w') : Ents w' v ls := by
  obtain ⟨A, c, e, hl, hm, h0⟩ := h
  exact ⟨A, c, e, hl, hm, fun h => by obtain ⟨b, o, e, hc⟩ := h0 h; exact ⟨b, o, e, hc.below hb⟩⟩
theorem add_zero (a : Addr) : a.add 0 = a := by simp [Addr.add]
theorem spot_none {w : World} {a : Addr} {v : Value} (h : w.cell? a = some v) : a = ⟨a.block, a.off, none⟩ := by
  obtain ⟨b, o, sp⟩ := a
  cases sp with
  | none => rfl
  | some x =>
    simp only [World.cell?] at h
    split at h
    · simp at h
    · cases h
theorem addr_add (b o n : Nat) : (⟨b, o, none⟩ : Addr).add n = ⟨b, o + n, none⟩ := by unfold Addr.add; split <;> simp_all

/-- what comes in as a slice of entries -/
theorem ents_of_reading {H : Type} {enc : TypeId × Value → H} {P : Program} {w : World} {base : Nat} {held : Bool} {t e tt ts : TypeId} {fuel : Nat} {v : Value} {x : DataW H × List MemPlace}
    {f0 f1 : Field} (ht : P.underlying t = some (.slice e)) (he : P.underlying e = some (.struct #[f0, f1])) (ce : P.cellsOf e = 2) (o0 : f0.offset = 0) (o1 : f1.offset = 1) (c0 : P.cellsOf f0.type = 1) (c1 : P.cellsOf f1.type = 1)
    (e0 : f0.type = tt) (e1 : f1.type = ts) (u0 : P.underlying tt = some (.int .u64)) (u1 : P.underlying ts = some .string)
    (h : DataW.trod enc P w base (fun _ => true) held fuel t [v] = some x) : ∃ ls, Ents w v ls ∧ Fine ls := by
  rcases open_slice_pairs ht he ce o0 o1 c0 c1 h with ⟨hcs, _⟩ | ⟨a, len, cap, m, n, V0, V1, D0, D1, P0, P1, hcs, _, hl, hm, hz, _, hcell⟩
  · obtain rfl : v = .slice none 0 0 := by simpa using hcs
    exact ⟨[], ⟨none, 0, rfl, Nat.le_refl _, Nat.zero_le _, fun h => absurd h (by simp)⟩, Nat.zero_le _, fun x hx => by cases hx⟩
  · obtain rfl : v = .slice (some a) len cap := by simpa using hcs
    simp only [if_true] at hz
    have each : ∀ i, i < len → ∃ q : rl.Ent, V0 i = .int .u64 (q.1 : Int) ∧ V1 i = .string (crcm.mk q.2) ∧ q.1 < 18446744073709551616 ∧ q.2.length ≤ maxLen := by
      intro i hi
      obtain ⟨_, _, g0, g1⟩ := hcell i (by omega)
      rw [e0] at g0
      rw [e1] at g1
      obtain ⟨z, hz1, _, hw⟩ := DataW.trod_int u0 g0
      obtain ⟨s, hs1, _, hs2⟩ := DataW.trod_string u1 g1
      have hb := bounds_u64 hw
      obtain ⟨q, rfl⟩ := Int.eq_ofNat_of_zero_le hb.1
      refine ⟨(q, s.data.toList), by simpa using hz1, by rw [crcm.mk_of]; simpa using hs1, by simp at hb ⊢; omega, by rw [crcm.size_len]; exact hs2⟩
    obtain ⟨q, hq⟩ := choose_lt each
    have hlen : ((List.range len).map q).length = len := by simp
    have hget : ∀ k, k < len → ((List.range len).map q).getD k rl.e0 = q k := fun k hk => by
      rw [List.getD_eq_getElem?_getD, List.getElem?_map, List.getElem?_range hk]; rfl
    refine ⟨(List.range len).map q, ⟨some a, cap, by rw [hlen], by rw [hlen]; exact hl, hm, fun h0 => ?_⟩, by rw [hlen]; omega, fun x hx => ?_⟩
    · rw [hlen] at h0
      have ha := (hcell 0 (by omega)).1
      rw [Nat.zero_mul, add_zero] at ha
      have hsp := spot_none ha
      refine ⟨a.block, a.off, by rw [← hsp], fun k hk => ?_⟩
      rw [hlen] at hk
      rw [hget k hk]
      obtain ⟨h0, h1, _⟩ := hcell k (by omega)
      rw [hsp, addr_add] at h0 h1
      rw [h0, ← Nat.add_assoc] at *
      rw [h1, (hq k hk).1, (hq k hk).2.1]
      exact ⟨rfl, rfl⟩
    · obtain ⟨k, hk, rfl⟩ := List.mem_map.1 hx
      exact ⟨(hq k (List.mem_range.1 hk)).2.2.1, (hq k (List.mem_range.1 hk)).2.2.2⟩
end Go.Proofs.Ytkoidphhlfjlhaa
