/- Acts that came in: a slice of structs, each with texts of its own. -/
import Derived.Deep.Slices
import Derived.ChangeSame
import Derived.OpenShut
import Derived.Test.YtdnoeahhidmkbaaDoorStrs
import Derived.Test.YtdnoeahhidmkbaaDoorVdDisk
namespace Go.Proofs.YtdnoeahhidmkbaaDoor
open Go Go.RowKit Go.ChangeShapes Go.WideShapes Go.Deep
set_option maxRecDepth 100000

namespace wl
structure Act where
  kind : Int
  n : Int
  keep : Int
  tv : Value
  ts : List (List UInt8)
end wl
instance : Inhabited wl.Act := ⟨⟨0, 0, 0, .slice none 0 0, []⟩⟩
structure ActAt (w : World) (b o : Nat) (x : wl.Act) : Prop where
  k0 : w.cell? ⟨b, o, none⟩ = some (.int .i64 x.kind)
  k1 : w.cell? ⟨b, o + 1, none⟩ = some (.int .i64 x.n)
  k2 : w.cell? ⟨b, o + 2, none⟩ = some (.int .i64 x.keep)
  k3 : w.cell? ⟨b, o + 3, none⟩ = some x.tv
  texts : Texts w x.tv x.ts
  top : x.n ≤ 9223372036854775807
/-- the slice v holds these acts -/
def Acts (w : World) (v : Value) (l : List wl.Act) : Prop :=
  ∃ A c, v = .slice A l.length c ∧ l.length ≤ maxLen ∧ (0 < l.length → ∃ b o, A = some ⟨b, o, none⟩ ∧ ∀ k, k < l.length → ActAt w b (o + k * 4) (l.getD k default))
theorem ActAt.below {w w' : World} {b o : Nat} {x : wl.Act} (h : ActAt w b o x) (hb : Below w.heap.size w w') : ActAt w' b o x :=
  ⟨cell_later hb h.k0, cell_later hb h.k1, cell_later hb h.k2, cell_later hb h.k3, h.texts.below hb, h.top⟩
theorem spot_none4 {w : World} {a : Addr} {v : Value} (h : w.cell? a = some v) : a = ⟨a.block, a.off, none⟩ := by
  unfold World.cell? at h
  split at h
  · split at h
    · cases h
    · rename_i hs
      cases a with
      | mk b o s =>
        cases s with
        | none => rfl
        | some x => simp at hs
  · cases h
theorem addr_add4 (b o k : Nat) : (⟨b, o, none⟩ : Addr).add k = ⟨b, o + k, none⟩ := by
  cases k with
  | zero => rfl
  | succ j => simp [Addr.add]
theorem acts_of_reading {H : Type} {enc : TypeId × Value → H} {P : Program} {w : World} {base : Nat} {held : Bool} {t e ti tl ts : TypeId} {fuel : Nat} {v : Value} {x : DataW H × List MemPlace}
    {f0 f1 f2 f3 : Field} (ht : P.underlying t = some (.slice e)) (he : P.underlying e = some (.struct #[f0, f1, f2, f3])) (ce : P.cellsOf e = 4) (o0 : f0.offset = 0) (o1 : f1.offset = 1) (o2 : f2.offset = 2) (o3 : f3.offset = 3)
    (c0 : P.cellsOf f0.type = 1) (c1 : P.cellsOf f1.type = 1) (c2 : P.cellsOf f2.type = 1) (c3 : P.cellsOf f3.type = 1)
    (e0 : f0.type = ti) (e1 : f1.type = ti) (e2 : f2.type = ti) (e3 : f3.type = tl) (u0 : P.underlying ti = some (.int .i64)) (u3 : P.underlying tl = some (.slice ts)) (us : P.underlying ts = some .string) (cs1 : P.cellsOf ts = 1)
    (h : DataW.trod enc P w base (fun _ => true) held fuel t [v] = some x) : ∃ l, Acts w v l := by
  rcases open_slice ht h with h0 | ⟨a, len, cap, m, n, D, Pl, hcs, hb, hl, hm, hmm, _, hx⟩
  · obtain rfl : v = .slice none 0 0 := by simpa using h0.1
    exact ⟨[], none, 0, rfl, Nat.zero_le _, fun h => absurd h (by simp)⟩
  · obtain rfl : v = .slice (some a) len cap := by simpa using hcs
    simp only [if_true] at hmm
    subst hmm
    have each : ∀ i, i < len → ∃ q : wl.Act, w.cell? (a.add (i * 4)) = some (.int .i64 q.kind) ∧ w.cell? (a.add (i * 4 + 1)) = some (.int .i64 q.n) ∧ w.cell? (a.add (i * 4 + 2)) = some (.int .i64 q.keep) ∧ w.cell? (a.add (i * 4 + 3)) = some q.tv ∧ Texts w q.tv q.ts ∧ q.n ≤ 9223372036854775807 := by
      intro i hi
      obtain ⟨cs', h1, h2⟩ := hx i (by omega)
      rw [ce] at h1
      obtain ⟨_, hlen, hcell⟩ := World.cells?_some h1
      obtain ⟨xs, k, hk, hxy, _, hxl, hf⟩ := DataW.trod_struct he h2
      match xs, hxl, cs', hlen with
      | [y0, y1, y2, y3], _, [v0, v1, v2, v3], _ =>
        have g0 := hf 0 f0 rfl
        have g1 := hf 1 f1 rfl
        have g2 := hf 2 f2 rfl
        have g3 := hf 3 f3 rfl
        simp [o0, o1, o2, o3, c0, c1, c2, c3] at g0 g1 g2 g3
        have d0 := hcell 0 (by omega)
        have d1 := hcell 1 (by omega)
        have d2 := hcell 2 (by omega)
        have d3 := hcell 3 (by omega)
        rw [add_add] at d0 d1 d2 d3
        rw [e0] at g0
        rw [e1] at g1
        rw [e2] at g2
        rw [e3] at g3
        obtain ⟨z0, hz0, _, hw0⟩ := DataW.trod_int u0 g0
        obtain ⟨z1, hz1, _, hw1⟩ := DataW.trod_int u0 g1
        obtain ⟨z2, hz2, _, hw2⟩ := DataW.trod_int u0 g2
        have hT : ∃ l, Texts w v3 l := by
          rcases open_slice u3 g3 with k0 | ⟨a3, len3, cap3, _, _, _, _, k1, _⟩
          · obtain rfl : v3 = .slice none 0 0 := by simpa using k0.1
            exact texts_of_reading (enc := enc) (base := base) (held := held) u3 us cs1 ⟨_, g3⟩
          · obtain rfl : v3 = .slice (some a3) len3 cap3 := by simpa using k1
            exact texts_of_reading (enc := enc) (base := base) (held := held) u3 us cs1 ⟨_, g3⟩
        obtain ⟨l, hl3⟩ := hT
        have hbd := bounds_i64 hw1
        refine ⟨⟨z0, z1, z2, v3, l⟩, ?_, ?_, ?_, ?_, hl3, hbd.2⟩
        · have : v0 = .int .i64 z0 := by simpa using hz0
          rw [← this]; simpa using d0
        · have : v1 = .int .i64 z1 := by simpa using hz1
          rw [← this]; simpa using d1
        · have : v2 = .int .i64 z2 := by simpa using hz2
          rw [← this]; simpa using d2
        · simpa using d3
    obtain ⟨q, hq⟩ := choose_lt each
    have hlen : ((List.range len).map q).length = len := by simp
    have hget : ∀ k, k < len → ((List.range len).map q).getD k default = q k := fun k hk => by
      rw [List.getD_eq_getElem?_getD, List.getElem?_map, List.getElem?_range hk]; rfl
    refine ⟨(List.range len).map q, some a, m, by rw [hlen], by rw [hlen]; omega, fun h0 => ?_⟩
    rw [hlen] at h0
    have ha := (hq 0 h0).1
    rw [Nat.zero_mul, show a.add 0 = a from by simp [Addr.add]] at ha
    have hsp := spot_none4 ha
    refine ⟨a.block, a.off, by rw [← hsp], fun k hk => ?_⟩
    rw [hlen] at hk
    rw [hget k hk]
    obtain ⟨g0, g1, g2, g3, g4, g5⟩ := hq k hk
    rw [hsp, addr_add4] at g0 g1 g2 g3
    exact ⟨g0, g1, g2, g3, g4, g5⟩
end Go.Proofs.YtdnoeahhidmkbaaDoor
