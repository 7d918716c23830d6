/- A map of files by their names, as a list: what the operations on it come to. -/
import Derived.Maps.Keyed
import Derived.StringKeys
import Derived.WideKeyElems
import Derived.MapKept
import Derived.Carry
import Derived.Laws.AppendOwn
import Derived.Test.YtdnoeahhidmkbaaDoorCrcText
namespace Go.Proofs.YtdnoeahhidmkbaaDoor
open Go Go.RowKit
open Go.MapKept (Stamped stamped_empty stamped_push stamped_modify stamped_erase)
set_option maxRecDepth 100000

namespace vd
abbrev Name := List UInt8
abbrev File := List UInt8 × Nat
abbrev Files := List (Name × File)
/-- the file of a name, or the empty one -/
def at_ : Files → Name → File
  | [], _ => ([], 0)
  | (n, f) :: r, k => if n = k then f else at_ r k
def has : Files → Name → Bool
  | [], _ => false
  | (n, _) :: r, k => if n = k then true else has r k
def put : Files → Name → File → Files
  | [], k, f => [(k, f)]
  | (n, g) :: r, k, f => if n = k then (n, f) :: r else (n, g) :: put r k f
def del : Files → Name → Files
  | [], _ => []
  | (n, g) :: r, k => if n = k then r else (n, g) :: del r k
theorem none_here {M : Files} {k : Name} (h : ∀ x ∈ M, x.1 ≠ k) (f : File) : has M k = false ∧ at_ M k = ([], 0) ∧ put M k f = M ++ [(k, f)] ∧ del M k = M := by
  induction M with
  | nil => exact ⟨rfl, rfl, rfl, rfl⟩
  | cons x r ih =>
    obtain ⟨n, g⟩ := x
    obtain ⟨h1, h2, h3, h4⟩ := ih (fun x hx => h x (by simp [hx]))
    have hn : ¬ n = k := h (n, g) (by simp)
    refine ⟨?_, ?_, ?_, ?_⟩
    · unfold has; rw [if_neg hn, h1]
    · unfold at_; rw [if_neg hn, h2]
    · unfold put; rw [if_neg hn, h3]; rfl
    · unfold del; rw [if_neg hn, h4]
theorem one_here {M : Files} {k : Name} {j : Nat} {g : File} (hd : (M.map (·.1)).Nodup) (h : M[j]? = some (k, g)) (f : File) : has M k = true ∧ at_ M k = g ∧ put M k f = M.set j (k, f) ∧ del M k = M.eraseIdx j := by
  induction M generalizing j with
  | nil => simp at h
  | cons x r ih =>
    obtain ⟨n, e⟩ := x
    rw [List.map_cons, List.nodup_cons] at hd
    cases j with
    | zero =>
      simp at h
      obtain ⟨rfl, rfl⟩ := h
      refine ⟨?_, ?_, ?_, ?_⟩
      · unfold has; rw [if_pos rfl]
      · unfold at_; rw [if_pos rfl]
      · unfold put; rw [if_pos rfl]; rfl
      · unfold del; rw [if_pos rfl]; rfl
    | succ j =>
      have h' : r[j]? = some (k, g) := by simpa using h
      obtain ⟨h1, h2, h3, h4⟩ := ih hd.2 h'
      have hn : ¬ n = k := by
        rintro rfl
        exact hd.1 (List.mem_map.2 ⟨(n, g), List.mem_of_getElem? h', rfl⟩)
      refine ⟨?_, ?_, ?_, ?_⟩
      · unfold has; rw [if_neg hn, h1]
      · unfold at_; rw [if_neg hn, h2]
      · unfold put; rw [if_neg hn, h3]; rfl
      · unfold del; rw [if_neg hn, h4]; rfl
end vd
def fileV (f : vd.File) : Value := .agg #[.string (crcm.mk f.1), .int .i64 (f.2 : Int)]
def keyV (n : vd.Name) : Value := .string (crcm.mk n)
theorem keyV_inj {a b : vd.Name} (h : keyV a = keyV b) : a = b := by
  unfold keyV at h
  injection h with h
  rw [← crcm.mk_toList a, h, crcm.mk_toList]
def pairV (x : vd.Name × vd.File) : Value × Value := (keyV x.1, fileV x.2)
/-- the block b is a map that holds these files, one behind the other -/
def FMap (w : World) (b : Nat) (M : vd.Files) : Prop :=
  ∃ es clock, w.heap[b]? = some (.map es clock) ∧ (es.toList.map fun e => (e.key, e.val)) = M.map pairV ∧ Stamped es clock ∧ ∀ x ∈ M, x.1.length ≤ maxLen
theorem FMap.lt {w : World} {b : Nat} {M : vd.Files} (h : FMap w b M) : b < w.heap.size := by
  obtain ⟨es, clock, hb, _⟩ := h
  exact (Array.getElem?_eq_some_iff.1 hb).1
theorem FMap.kept {w w' : World} {b : Nat} {M : vd.Files} {row : Option Nat} (h : FMap w b M) (hg : w.grownBy w' row) (hne : some b ≠ row) : FMap w' b M := by
  have hlt := h.lt
  obtain ⟨es, clock, hb, r⟩ := h
  exact ⟨es, clock, (hg.block b hlt hne).trans hb, r⟩
theorem FMap.below {w w' : World} {b : Nat} {M : vd.Files} (h : FMap w b M) (hb : Below w.heap.size w w') : FMap w' b M := by
  have hlt := h.lt
  obtain ⟨es, clock, he, r⟩ := h
  exact ⟨es, clock, (hb.block b hlt).trans he, r⟩
theorem FMap.made (w : World) : FMap (w.alloc (.map #[] 0)) w.heap.size [] :=
  ⟨#[], 0, (MapKept.heap_alloc w _).1, rfl, stamped_empty 0, fun x hx => by cases hx⟩
section
variable {P : Program} {k : TypeId} {w : World} {b : Nat} {M : vd.Files} {es : Array MapEntry} {clock : Nat}
theorem kv_nodup (hkv : (es.toList.map fun e => (e.key, e.val)) = M.map pairV) (hs : Stamped es clock) : (M.map (·.1)).Nodup := by
  have h3 := hs.2.2
  have e1 : es.toList.map (·.key) = M.map (fun x => keyV x.1) := by
    have := congrArg (List.map Prod.fst) hkv
    simpa [List.map_map, Function.comp_def, pairV] using this
  rw [e1] at h3
  have : (M.map (·.1)).map keyV = M.map (fun x => keyV x.1) := by rw [List.map_map]; rfl
  rw [← this] at h3
  generalize M.map (·.1) = l at h3
  clear hkv hs e1 this
  induction l with
  | nil => exact List.nodup_nil
  | cons x r ih =>
    rw [List.map_cons, List.nodup_cons] at h3
    rw [List.nodup_cons]
    exact ⟨fun hx => h3.1 (List.mem_map.2 ⟨x, hx, rfl⟩), ih h3.2⟩
theorem kv_get (hkv : (es.toList.map fun e => (e.key, e.val)) = M.map pairV) {j : Nat} {e : MapEntry} (h : es.toList[j]? = some e) {n : vd.Name} (hk : e.key = keyV n) : ∃ g, M[j]? = some (n, g) ∧ e.val = fileV g := by
  have h1 : (es.toList.map fun e => (e.key, e.val))[j]? = some (e.key, e.val) := by rw [List.getElem?_map, h]; rfl
  rw [hkv, List.getElem?_map] at h1
  cases hm : M[j]? with
  | none => rw [hm] at h1; cases h1
  | some x =>
    rw [hm] at h1
    obtain ⟨m, g⟩ := x
    have h2 : (keyV m, fileV g) = (e.key, e.val) := Option.some.inj h1
    have h3 : keyV m = keyV n := by rw [← hk]; exact (Prod.mk.inj h2).1
    have := keyV_inj h3
    subst this
    exact ⟨g, rfl, (Prod.mk.inj h2).2.symm⟩
theorem kv_none (hkv : (es.toList.map fun e => (e.key, e.val)) = M.map pairV) {n : vd.Name} (h : ∀ e ∈ es.toList, e.key ≠ keyV n) : ∀ x ∈ M, x.1 ≠ n := by
  rintro ⟨m, g⟩ hx rfl
  have hm : pairV (m, g) ∈ M.map pairV := List.mem_map.2 ⟨_, hx, rfl⟩
  rw [← hkv] at hm
  obtain ⟨e, he, hee⟩ := List.mem_map.1 hm
  exact h e he (Prod.mk.inj hee).1
theorem kv_keys (hk : P.underlying k = some .string) (hkv : (es.toList.map fun e => (e.key, e.val)) = M.map pairV) (hl : ∀ x ∈ M, x.1.length ≤ maxLen) : ∀ e ∈ es.toList, ∃ l, keyOf P k e.key = some l := by
  intro e he
  have hm : (e.key, e.val) ∈ es.toList.map fun e => (e.key, e.val) := List.mem_map.2 ⟨e, he, rfl⟩
  rw [hkv] at hm
  obtain ⟨x, hx, hxe⟩ := List.mem_map.1 hm
  have : e.key = keyV x.1 := (Prod.mk.inj hxe).1.symm
  rw [this]
  exact ⟨_, WideMaps.keyOf_string_mk hk (by rw [crcm.mk_size]; exact hl x hx)⟩
end
section
variable {P : Program} {t k e : TypeId} {w : World} {b : Nat} {M : vd.Files}
theorem FMap.look_ok (h : FMap w b M) (ht : P.underlying t = some (.map k e)) (hk : P.underlying k = some .string) (hz : (zeroValue e).run P w = .ok (fileV ([], 0)) w) (n : vd.Name) (hn : n.length ≤ maxLen) :
    (Instr.lookup t (.map (some b)) (keyV n) true).run P w = .ok (.tuple #[fileV (vd.at_ M n), .bool (vd.has M n)]) w := by
  obtain ⟨es, clock, hb, hkv, hs, hl⟩ := h
  have hkey : keyOf P k (keyV n) = some _ := WideMaps.keyOf_string_mk hk (by rw [crcm.mk_size]; exact hn)
  rcases (WideMaps.string_law hk).find w hkey es.toList (kv_keys hk hkv hl) with ⟨h1, h2⟩ | ⟨j, e0, h1, h2, h3⟩
  · obtain ⟨g1, g2, _⟩ := vd.none_here (kv_none hkv h2) ([], 0)
    rw [g1, g2]
    simp [Instr.lookup, run_underlying ht, MapKept.run_getObj_map hb, (WideMaps.string_law hk).check w _ hkey, h1, hz, Result.andThen]
  · obtain ⟨g, hg, hv⟩ := kv_get hkv h2 h3
    obtain ⟨g1, g2, _⟩ := vd.one_here (kv_nodup hkv hs) hg ([], 0)
    rw [g1, g2]
    simp [Instr.lookup, run_underlying ht, MapKept.run_getObj_map hb, (WideMaps.string_law hk).check w _ hkey, h1, hv, Result.andThen]
theorem FMap.look (h : FMap w b M) (ht : P.underlying t = some (.map k e)) (hk : P.underlying k = some .string) (hz : (zeroValue e).run P w = .ok (fileV ([], 0)) w) (n : vd.Name) (hn : n.length ≤ maxLen) :
    (Instr.lookup t (.map (some b)) (keyV n) false).run P w = .ok (fileV (vd.at_ M n)) w := by
  obtain ⟨es, clock, hb, hkv, hs, hl⟩ := h
  have hkey : keyOf P k (keyV n) = some _ := WideMaps.keyOf_string_mk hk (by rw [crcm.mk_size]; exact hn)
  rcases (WideMaps.string_law hk).find w hkey es.toList (kv_keys hk hkv hl) with ⟨h1, h2⟩ | ⟨j, e0, h1, h2, h3⟩
  · obtain ⟨g1, g2, _⟩ := vd.none_here (kv_none hkv h2) ([], 0)
    rw [g2]
    simp [Instr.lookup, run_underlying ht, MapKept.run_getObj_map hb, (WideMaps.string_law hk).check w _ hkey, h1, hz, Result.andThen]
  · obtain ⟨g, hg, hv⟩ := kv_get hkv h2 h3
    obtain ⟨g1, g2, _⟩ := vd.one_here (kv_nodup hkv hs) hg ([], 0)
    rw [g2]
    simp [Instr.lookup, run_underlying ht, MapKept.run_getObj_map hb, (WideMaps.string_law hk).check w _ hkey, h1, hv, Result.andThen]
theorem setBlock_grown (w : World) (b : Nat) (o : Obj) : w.grownBy (ChangeMaps.setBlock w b o) (some b) :=
  ⟨rfl, rfl, rfl, by simp [ChangeMaps.setBlock], fun i _ hne => by
    have hbi : b ≠ i := fun e => hne (by rw [e])
    simp [ChangeMaps.setBlock, hbi]⟩
theorem setBlock_at {w : World} {b : Nat} (o : Obj) (h : b < w.heap.size) : (ChangeMaps.setBlock w b o).heap[b]? = some o := by
  simp [ChangeMaps.setBlock, h]
/-- the map's entries stand where they stood, each of its age -/
def SameBorn (w w' : World) (b : Nat) : Prop := ∀ es clock, w.heap[b]? = some (.map es clock) → ∃ es', w'.heap[b]? = some (.map es' clock) ∧ es'.toList.map (·.born) = es.toList.map (·.born)
theorem SameBorn.trans {w w' w'' : World} {b : Nat} (h : SameBorn w w' b) (k : SameBorn w' w'' b) : SameBorn w w'' b := fun es clock he => by
  obtain ⟨es1, h1, h2⟩ := h es clock he
  obtain ⟨es2, h3, h4⟩ := k es1 clock h1
  exact ⟨es2, h3, h4.trans h2⟩
theorem SameBorn.of_eq {w w' : World} {b : Nat} (h : w'.heap[b]? = w.heap[b]?) : SameBorn w w' b := fun es _ he => ⟨es, h.trans he, rfl⟩
theorem FMap.update (h : FMap w b M) (ht : P.underlying t = some (.map k e)) (hk : P.underlying k = some .string) (n : vd.Name) (f : vd.File) (hn : n.length ≤ maxLen) :
    ∃ w', (Instr.mapUpdate t (.map (some b)) (keyV n) (fileV f)).run P w = .ok () w' ∧ FMap w' b (vd.put M n f) ∧ w.grownBy w' (some b) ∧ (vd.has M n = true → SameBorn w w' b) := by
  have hlt := h.lt
  obtain ⟨es, clock, hb, hkv, hs, hl⟩ := h
  have hkey : keyOf P k (keyV n) = some _ := WideMaps.keyOf_string_mk hk (by rw [crcm.mk_size]; exact hn)
  rcases (WideMaps.string_law hk).find w hkey es.toList (kv_keys hk hkv hl) with ⟨h1, h2⟩ | ⟨j, e0, h1, h2, h3⟩
  · obtain ⟨g1, _, g3, _⟩ := vd.none_here (kv_none hkv h2) f
    refine ⟨ChangeMaps.setBlock w b (.map (es.push ⟨keyV n, fileV f, clock⟩) (clock + 1)), ?_, ⟨_, _, setBlock_at _ hlt, ?_, stamped_push hs h2, ?_⟩, setBlock_grown _ _ _, fun hh => by rw [g1] at hh; cases hh⟩
    · simp [Instr.mapUpdate, run_underlying ht, MapKept.run_getObj_map hb, (WideMaps.string_law hk).check w false hkey, h1, MapKept.run_setObj_map _ hb, Result.andThen, ChangeMaps.setBlock]
    · rw [g3, Array.toList_push, List.map_append, hkv, List.map_append]; rfl
    · rw [g3]
      intro x hx
      rcases List.mem_append.1 hx with hx | hx
      · exact hl x hx
      · simp at hx; subst hx; exact hn
  · obtain ⟨g, hg, hv⟩ := kv_get hkv h2 h3
    obtain ⟨_, _, g3, _⟩ := vd.one_here (kv_nodup hkv hs) hg f
    have hj : es[j]? = some e0 := by simpa using h2
    have hkeyf : ∀ e', es[j]? = some e' → ({ e' with key := keyV n, val := fileV f } : MapEntry).key = e'.key := fun e' he' => by rw [hj] at he'; cases he'; exact h3.symm
    refine ⟨ChangeMaps.setBlock w b (.map (es.modify j (fun e' => { e' with key := keyV n, val := fileV f })) clock), ?_, ⟨_, _, setBlock_at _ hlt, ?_, stamped_modify hs _ _ (fun _ _ => rfl) (fun e' _ he' => hkeyf e' he'), ?_⟩, setBlock_grown _ _ _, fun _ es1 clock1 he1 => ?_⟩
    · simp [Instr.mapUpdate, run_underlying ht, MapKept.run_getObj_map hb, (WideMaps.string_law hk).check w false hkey, h1, hj, h3, (WideMaps.string_law hk).stays w hkey, MapKept.run_setObj_map _ hb, Result.andThen, ChangeMaps.setBlock]
    · rw [g3, Array.toList_modify, ChangeMaps.modify_eq_set _ _ _ _ h2, List.map_set, hkv, List.map_set]
      rfl
    · rw [g3]
      intro x hx
      rcases List.mem_or_eq_of_mem_set hx with hx | rfl
      · exact hl x hx
      · exact hn
    · rw [hb] at he1
      cases he1
      refine ⟨_, setBlock_at _ hlt, ?_⟩
      rw [Array.toList_modify, ChangeMaps.modify_eq_set _ _ _ _ h2, List.map_set]
      apply List.ext_getElem?
      intro q
      rw [List.getElem?_set]
      by_cases hq : j = q
      · subst hq
        rw [if_pos rfl, List.getElem?_map, h2]
        simp
        exact (List.getElem?_eq_some_iff.1 h2).1
      · rw [if_neg hq]
theorem FMap.delete (h : FMap w b M) (ht : P.underlying t = some (.map k e)) (hk : P.underlying k = some .string) (ty : TypeId) (n : vd.Name) (hn : n.length ≤ maxLen) :
    ∃ w', (Builtin.delete_ #[t, k] ty #[.map (some b), keyV n]).run P w = .ok (.tuple #[]) w' ∧ FMap w' b (vd.del M n) ∧ w.grownBy w' (some b) := by
  have hlt := h.lt
  obtain ⟨es, clock, hb, hkv, hs, hl⟩ := h
  have hkey : keyOf P k (keyV n) = some _ := WideMaps.keyOf_string_mk hk (by rw [crcm.mk_size]; exact hn)
  rcases (WideMaps.string_law hk).find w hkey es.toList (kv_keys hk hkv hl) with ⟨h1, h2⟩ | ⟨j, e0, h1, h2, h3⟩
  · obtain ⟨_, _, _, g4⟩ := vd.none_here (kv_none hkv h2) ([], 0)
    refine ⟨ChangeMaps.setBlock w b (.map es clock), ?_, ⟨_, _, setBlock_at _ hlt, ?_, hs, ?_⟩, setBlock_grown _ _ _⟩
    · simp [Builtin.delete_, run_underlying ht, MapKept.run_getObj_map hb, (WideMaps.string_law hk).check w _ hkey, h1, MapKept.run_setObj_map _ hb, Result.andThen, ChangeMaps.setBlock]
    · rw [g4, hkv]
    · rw [g4]; exact hl
  · obtain ⟨g, hg, hv⟩ := kv_get hkv h2 h3
    obtain ⟨_, _, _, g4⟩ := vd.one_here (kv_nodup hkv hs) hg ([], 0)
    have hjs : j < es.size := by simpa using (List.getElem?_eq_some_iff.1 h2).1
    have hsub : (es.eraseIdxIfInBounds j).toList = es.toList.eraseIdx j := by
      unfold Array.eraseIdxIfInBounds
      rw [dif_pos hjs]
      simp
    refine ⟨ChangeMaps.setBlock w b (.map (es.eraseIdxIfInBounds j) clock), ?_, ⟨_, _, setBlock_at _ hlt, ?_, stamped_erase hs j, ?_⟩, setBlock_grown _ _ _⟩
    · simp [Builtin.delete_, run_underlying ht, MapKept.run_getObj_map hb, (WideMaps.string_law hk).check w _ hkey, h1, MapKept.run_setObj_map _ hb, Result.andThen, ChangeMaps.setBlock]
    · rw [g4, hsub, ChangeMaps.map_eraseIdx, hkv, ChangeMaps.map_eraseIdx]
    · rw [g4]
      intro x hx
      exact hl x ((List.eraseIdx_sublist _ _).subset hx)
end
end Go.Proofs.YtdnoeahhidmkbaaDoor
