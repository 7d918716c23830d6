/- A range over the map of files, whose rounds store at names that are there. -/
import Derived.Maps.RangeRun
import Derived.Test.YtdnoeahhidmkbaaDoorVdSet
namespace Go.Proofs.YtdnoeahhidmkbaaDoor
open Go Go.RowKit Go.MapKept
set_option maxRecDepth 100000

/-- the range in block r over the map in block b, which holds M; those that are done have come -/
def It (w : World) (r b : Nat) (M : vd.Files) (done : vd.Name → Bool) : Prop :=
  ∃ es clock since seen c0, w.heap[r]? = some (.mapIter (some b) since seen c0) ∧ w.heap[b]? = some (.map es clock) ∧ (es.toList.map fun e => (e.key, e.val)) = M.map pairV ∧ Stamped es clock ∧
    (∀ x ∈ es.toList, x.born < since) ∧ since ≤ c0 ∧ since ≤ clock ∧ ∀ x ∈ es.toList, ∀ n, x.key = keyV n → seen.contains x.born = done n
theorem It.lt {w : World} {r b : Nat} {M : vd.Files} {done : vd.Name → Bool} (h : It w r b M done) : r < w.heap.size ∧ b < w.heap.size ∧ r ≠ b := by
  obtain ⟨es, clock, since, seen, c0, hr, hb, _⟩ := h
  refine ⟨(Array.getElem?_eq_some_iff.1 hr).1, (Array.getElem?_eq_some_iff.1 hb).1, ?_⟩
  rintro rfl
  rw [hr] at hb
  cases hb
theorem It.nodup {w : World} {r b : Nat} {M : vd.Files} {done : vd.Name → Bool} (h : It w r b M done) : (M.map (·.1)).Nodup := by
  obtain ⟨es, clock, since, seen, c0, hr, hb, hkv, hs, _⟩ := h
  exact kv_nodup hkv hs
/-- the range begins -/
theorem It.begin {w w0 : World} {b : Nat} {M : vd.Files} (h : FMap w b M) {P : Program} {t k e : TypeId} (ht : P.underlying t = some (.map k e)) (e0 : w0 = w) :
    ∃ w', (Instr.range t (.map (some b))).run P w0 = .ok (.pointer (some ⟨w.heap.size, 0, none⟩)) w' ∧ It w' w.heap.size b M (fun _ => false) ∧ Below w.heap.size w w' ∧ w'.heap.size = w.heap.size + 1 := by
  subst e0
  have hlt := h.lt
  obtain ⟨es, clock, hb, hkv, hs, hl⟩ := h
  refine ⟨_, run_range_map w0 t k e b es clock ht hb, ⟨es, clock, clock, #[], clock, heap_alloc_new _ _, ?_, hkv, hs, hs.1, Nat.le_refl _, Nat.le_refl _, fun x _ n _ => by simp⟩, (Below.refl _ w0).alloc (Nat.le_refl _) _, Array.size_push _⟩
  rw [((Below.refl w0.heap.size w0).alloc (Nat.le_refl _) _).block b hlt]; exact hb
/-- a step of the range -/
theorem It.step {w : World} {r b : Nat} {M : vd.Files} {done : vd.Name → Bool} (h : It w r b M done) {P : Program} (ty : TypeId) :
    ((∀ x ∈ M, done x.1 = true) ∧ (Instr.next (.pointer (some ⟨r, 0, none⟩)) false ty).run P w = .ok (.tuple #[.bool false]) w) ∨
    ∃ n g w', (n, g) ∈ M ∧ done n = false ∧ (Instr.next (.pointer (some ⟨r, 0, none⟩)) false ty).run P w = .ok (.tuple #[.bool true, keyV n, fileV g]) w' ∧ It w' r b M (fun m => decide (m = n) || done m) ∧
      Apart [r] w w' ∧ w'.heap.size = w.heap.size ∧ (Instr.entry (.pointer (some ⟨r, 0, none⟩))).run P w' = .ok (.tuple #[keyV n, fileV g]) w' := by
  obtain ⟨hrl, hbl, hrb⟩ := h.lt
  obtain ⟨es, clock, since, seen, c0, hr, hb, hkv, hs, hold, hsc, hcl, hdone⟩ := h
  rcases run_next_at (P := P) w ty r b since c0 seen es clock hr hb hold hsc with ⟨h0, hrun⟩ | ⟨e, he, w1, hw1, hrun⟩
  · refine .inl ⟨?_, hrun⟩
    rintro ⟨n, g⟩ hx
    have hm : pairV (n, g) ∈ es.toList.map fun e => (e.key, e.val) := by rw [hkv]; exact List.mem_map.2 ⟨_, hx, rfl⟩
    obtain ⟨e, he, hee⟩ := List.mem_map.1 hm
    have hk : e.key = keyV n := (Prod.mk.inj hee).1
    rw [← hdone e he n hk]
    by_cases hc : seen.contains e.born = true
    · exact hc
    · have : e ∈ leftOf es seen := by
        unfold leftOf
        rw [Array.mem_filter]
        exact ⟨by simpa using he, by simpa using hc⟩
      rw [Array.eq_empty_of_size_eq_zero h0] at this
      simp at this
  · have he' : e ∈ es.toList ∧ seen.contains e.born = false := by
      have : e ∈ leftOf es seen := by simpa using he
      unfold leftOf at this
      rw [Array.mem_filter] at this
      exact ⟨by simpa using this.1, by simpa using this.2⟩
    have hm : (e.key, e.val) ∈ M.map pairV := by rw [← hkv]; exact List.mem_map.2 ⟨e, he'.1, rfl⟩
    obtain ⟨⟨n, g⟩, hx, hxe⟩ := List.mem_map.1 hm
    have hk : e.key = keyV n := (Prod.mk.inj hxe).1.symm
    have hv : e.val = fileV g := (Prod.mk.inj hxe).2.symm
    have h1 : w1.heap = w.heap := by rcases hw1 with rfl | rfl <;> rfl
    have hA1 : Apart [r] w w1 := by rcases hw1 with rfl | rfl; exact .refl _ _; exact .drew _ _
    have hA2 : Apart [r] w1 (ChangeMaps.setBlock w1 r (.mapIter (some b) since (seen.push e.born) clock)) := .of_grown (setBlock_grown _ _ _)
    have hA := hA1.trans hA2
    have hr2 := setBlock_at (w := w1) (b := r) (.mapIter (some b) since (seen.push e.born) clock) (by rw [h1]; exact hrl)
    have hb2 : (ChangeMaps.setBlock w1 r (.mapIter (some b) since (seen.push e.born) clock)).heap[b]? = some (.map es clock) := (hA.block b hbl (by simp; exact fun e => hrb e.symm)).trans hb
    refine .inr ⟨n, g, _, hx, ?_, ?_, ⟨es, clock, since, seen.push e.born, clock, hr2, hb2, hkv, hs, hold, hcl, hcl, ?_⟩, hA, by simp [ChangeMaps.setBlock, h1], ?_⟩
    · rw [← hdone e he'.1 n hk]; exact he'.2
    · rw [hrun, hk, hv]
    · intro x hxm m hkm
      rw [Array.contains_push, hdone x hxm m hkm]
      by_cases hmn : m = n
      · have : x = e := by
          have hp := hs.2.2
          have h2 := (stamped_iff es clock).1 hs
          exact entry_eq_of_key h2.2.2 hxm he'.1 (by rw [hkm, hk, hmn])
        subst this
        simp [hmn]
      · have hne : ¬ x.born = e.born := by
          intro hbb
          have h2 := find_born x es.toList hs.2.1 hxm
          have h3 := find_born e es.toList hs.2.1 he'.1
          rw [hbb, h3] at h2
          cases h2
          rw [hk] at hkm
          exact hmn (keyV_inj hkm).symm
        simp [hmn, hne]
    · rw [run_entry_at _ r b since seen es clock e hr2 hb2 he'.1 hs.2.1, hk, hv]
/-- .. and stands where it stood while a name that is there gets another file -/
theorem It.stays {w w' : World} {r b : Nat} {M : vd.Files} {done : vd.Name → Bool} (h : It w r b M done) {S : List Nat} (hA : Apart S w w') (hr : r ∉ S) {n : vd.Name} {f : vd.File} (hn : vd.has M n = true) (hsb : SameBorn w w' b) (hM : FMap w' b (vd.put M n f)) : It w' r b (vd.put M n f) done := by
  obtain ⟨hrl, hbl, hrb⟩ := h.lt
  obtain ⟨es, clock, since, seen, c0, hr1, hb, hkv, hs, hold, hsc, hcl, hdone⟩ := h
  obtain ⟨es', hb', hbs⟩ := hsb es clock hb
  obtain ⟨es2, clock2, hb2, hkv2, hs2, hl2⟩ := hM
  rw [hb'] at hb2
  cases hb2
  have hnd := kv_nodup hkv hs
  have hnames : (vd.put M n f).map (·.1) = M.map (·.1) := by
    clear hkv2 hl2 hkv hnd hdone
    induction M with
    | nil => simp [vd.has] at hn
    | cons x q ih =>
      obtain ⟨m, g⟩ := x
      unfold vd.put
      by_cases h1 : m = n
      · rw [if_pos h1]; rfl
      · unfold vd.has at hn
        rw [if_neg h1] at hn
        rw [if_neg h1, List.map_cons, List.map_cons, ih hn]
  have hkeys : es'.toList.map (·.key) = es.toList.map (·.key) := by
    have e1 := congrArg (List.map Prod.fst) hkv
    have e2 := congrArg (List.map Prod.fst) hkv2
    have e3 := congrArg (List.map keyV) hnames
    simp only [List.map_map, Function.comp_def, pairV] at e1 e2 e3
    rw [e2, e1, e3]
  refine ⟨es', clock, since, seen, c0, (hA.block r hrl hr).trans hr1, hb', hkv2, hs2, ?_, hsc, hcl, ?_⟩
  · intro x hx
    have : x.born ∈ es'.toList.map (·.born) := List.mem_map.2 ⟨x, hx, rfl⟩
    rw [hbs] at this
    obtain ⟨y, hy, hyx⟩ := List.mem_map.1 this
    rw [← hyx]; exact hold y hy
  · intro x hx m hk
    obtain ⟨j, hj⟩ := List.getElem?_of_mem hx
    have g1 : (es'.toList.map (·.born))[j]? = some x.born := by rw [List.getElem?_map, hj]; rfl
    have g2 : (es'.toList.map (·.key))[j]? = some x.key := by rw [List.getElem?_map, hj]; rfl
    rw [hbs, List.getElem?_map] at g1
    rw [hkeys, List.getElem?_map] at g2
    cases hy : es.toList[j]? with
    | none => rw [hy] at g1; cases g1
    | some y =>
      rw [hy] at g1 g2
      rw [← Option.some.inj g1]
      exact hdone y (List.mem_of_getElem? hy) m ((Option.some.inj g2).trans hk)
theorem It.apart {w w' : World} {r b : Nat} {M : vd.Files} {done : vd.Name → Bool} (h : It w r b M done) {S : List Nat} (hA : Apart S w w') (hr : r ∉ S) (hb : b ∉ S) : It w' r b M done := by
  obtain ⟨hrl, hbl, hrb⟩ := h.lt
  obtain ⟨es, clock, since, seen, c0, hr1, hb1, rest⟩ := h
  exact ⟨es, clock, since, seen, c0, (hA.block r hrl hr).trans hr1, (hA.block b hbl hb).trans hb1, rest⟩
end Go.Proofs.YtdnoeahhidmkbaaDoor
