/- A slice of strings in memory, as a list of lists of bytes: what came in, and what is read of it. -/
import Derived.Test.YtdnoeahhidmkbaaDoorCrcText
import Derived.WalkKit
import Derived.WalkSpells
import Derived.ProofKit
import Derived.SliceStrings
namespace Go.Proofs.YtdnoeahhidmkbaaDoor
open Go Go.RowKit Go.ChangeShapes
set_option maxRecDepth 100000

/-- the slice v holds these texts -/
def Strs (w : World) (v : Value) (ls : List (List UInt8)) : Prop :=
  ∃ A c, v = .slice A ls.length c ∧ ∀ k, k < ls.length → ∃ ad, A = some ad ∧ w.cell? (ad.add k) = some (.string (crcm.mk (ls.getD k [])))
theorem Strs.below {w w' : World} {v : Value} {ls : List (List UInt8)} (h : Strs w v ls) (hb : Below w.heap.size w w') : Strs w' v ls := by
  obtain ⟨A, c, e, hc⟩ := h
  exact ⟨A, c, e, fun k hk => by obtain ⟨ad, e2, h2⟩ := hc k hk; exact ⟨ad, e2, cell_later hb h2⟩⟩
theorem mk_toL (l : List UInt8) : (crcm.mk l).toList = l := by rw [ByteArray.toList_eq]; rfl
/-- and none of them, nor their number, is beyond what an int can say -/
def Texts (w : World) (v : Value) (ls : List (List UInt8)) : Prop := Strs w v ls ∧ ls.length ≤ maxLen ∧ (∀ t ∈ ls, t.length ≤ maxLen) ∧ ∃ A c, v = .slice A ls.length c ∧ ls.length ≤ c
theorem Texts.below {w w' : World} {v : Value} {ls : List (List UInt8)} (h : Texts w v ls) (hb : Below w.heap.size w w') : Texts w' v ls := ⟨h.1.below hb, h.2⟩

theorem texts_of_reading {H : Type} {enc : TypeId × Value → H} {P : Program} {w : World} {base : Nat} {held : Bool} {t e : TypeId} {a : Option Addr} {len cap : Nat} {d : DataW H} {ps : List MemPlace}
    (ht : P.underlying t = some (.slice e)) (he : P.underlying e = some .string) (hc : P.cellsOf e = 1) (h : DataW.Trod enc P w base (fun _ => true) held t (.slice a len cap) d ps) :
    ∃ ls, Texts w (.slice a len cap) ls := by
  obtain ⟨fuel, hf⟩ := h
  rcases open_strings ht he hc hf with ⟨hcs, _⟩ | ⟨a', len', cap', ss, hcs, _, hl, hm, hz, _, hcell, hws⟩
  · obtain ⟨rfl, rfl, rfl⟩ : a = none ∧ len = 0 ∧ cap = 0 := by simpa [Value.cells] using hcs
    exact ⟨[], ⟨none, 0, rfl, fun k hk => by simp at hk⟩, Nat.zero_le _, (fun t ht => by cases ht), none, 0, rfl, Nat.le_refl _⟩
  · obtain ⟨rfl, rfl, rfl⟩ : a = some a' ∧ len = len' ∧ cap = cap' := by simpa [Value.cells] using hcs
    simp only [if_true] at hz
    have hlen : ((ss.take len).map fun s => s.data.toList).length = len := by rw [List.length_map, List.length_take]; omega
    have hk : ∀ k, k < len → ∃ s, ss[k]? = some s := fun k hk => ⟨ss[k]'(by omega), List.getElem?_eq_getElem (by omega)⟩
    refine ⟨(ss.take len).map fun s => s.data.toList, ⟨some a', cap, by rw [hlen], fun k hkl => ⟨a', rfl, ?_⟩⟩, by rw [hlen]; omega, ?_, some a', cap, by rw [hlen], by rw [hlen]; exact hl⟩
    · rw [hlen] at hkl
      obtain ⟨s, hs⟩ := hk k hkl
      have h1 := hcell k (by omega)
      have e1 : ss.getD k ByteArray.empty = s := by rw [List.getD_eq_getElem?_getD, hs]; rfl
      have e2 : ((ss.take len).map fun s => s.data.toList).getD k [] = s.data.toList := by
        rw [List.getD_eq_getElem?_getD, List.getElem?_map, List.getElem?_take_of_lt hkl, hs]; rfl
      rw [h1, e1, e2, crcm.mk_of]
    · intro t ht
      obtain ⟨s, hs, rfl⟩ := List.mem_map.1 ht
      have := hws s (List.mem_of_mem_take hs)
      rw [crcm.size_len]
      exact this
end Go.Proofs.YtdnoeahhidmkbaaDoor
