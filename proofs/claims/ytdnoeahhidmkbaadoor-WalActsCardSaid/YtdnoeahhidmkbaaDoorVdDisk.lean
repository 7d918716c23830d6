/- A disk in memory: a struct's block, and a map of files; what stays when it turns. -/
import Derived.WalkKit
import Derived.WalkSmall
import Derived.WalkSpells
import Derived.ProofKit
import Derived.Lib.Hide
import Derived.Lib.MinMax
import Derived.Test.YtdnoeahhidmkbaaDoorWMap
import Derived.Test.YtdnoeahhidmkbaaDoorProg
namespace Go.Proofs.YtdnoeahhidmkbaaDoor
open Go Go.RowKit
set_option maxRecDepth 100000

/-- block g holds just these -/
def Vb (w : World) (g : Nat) (vs : List Value) (t : TypeId) : Prop := w.heap[g]? = some (.cells vs.toArray t (0, 0))
theorem Vb.cell {w : World} {g : Nat} {vs : List Value} {t : TypeId} (h : Vb w g vs t) (j : Nat) (u : Value) (hj : vs[j]? = some u) : w.cell? ⟨g, j, none⟩ = some u := by
  rw [cell_of_row w g j _ _ (0, 0) h]; simpa using hj
theorem Vb.free {w : World} {g : Nat} {vs : List Value} {t : TypeId} (h : Vb w g vs t) (j : Nat) : w.frozen? ⟨g, j, none⟩ = false := by
  unfold Vb at h; simp [World.frozen?, h]
theorem Vb.lt {w : World} {g : Nat} {vs : List Value} {t : TypeId} (h : Vb w g vs t) : g < w.heap.size := (Array.getElem?_eq_some_iff.1 h).1
theorem Vb.set {w : World} {g : Nat} {vs : List Value} {t : TypeId} (h : Vb w g vs t) (j : Nat) (u : Value) : Vb (w.setCell ⟨g, j, none⟩ u) g (vs.set j u) t := by
  unfold Vb at h ⊢
  simp only [World.setCell, Array.getElem?_modify, h, if_true]
  simp
theorem Vb.new (w : World) (vs : List Value) (t : TypeId) : Vb (w.alloc (.cells vs.toArray t)) w.heap.size vs t := heap_alloc_new w _

/-- nothing that was there has turned, but the blocks of S -/
structure Apart (S : List Nat) (w w' : World) : Prop where
  os : w'.os = w.os
  tape : w'.tape = w.tape
  output : w'.output = w.output
  size : w.heap.size ≤ w'.heap.size
  block : ∀ k, k < w.heap.size → k ∉ S → w'.heap[k]? = w.heap[k]?
theorem Apart.refl (S : List Nat) (w : World) : Apart S w w := ⟨rfl, rfl, rfl, Nat.le_refl _, fun _ _ _ => rfl⟩
theorem Apart.trans {S : List Nat} {a b c : World} (h : Apart S a b) (k : Apart S b c) : Apart S a c :=
  ⟨k.os.trans h.os, k.tape.trans h.tape, k.output.trans h.output, Nat.le_trans h.size k.size, fun i hi hn => (k.block i (Nat.lt_of_lt_of_le hi h.size) hn).trans (h.block i hi hn)⟩
theorem Apart.mono {S T : List Nat} {w w' : World} (h : Apart S w w') (hs : ∀ x ∈ S, x ∈ T) : Apart T w w' :=
  ⟨h.os, h.tape, h.output, h.size, fun k hk hn => h.block k hk (fun hx => hn (hs k hx))⟩
/-- .. and blocks that were not there may turn as well -/
theorem Apart.late {S T : List Nat} {w w' : World} (h : Apart S w w') (hs : ∀ x ∈ S, x ∈ T ∨ w.heap.size ≤ x) : Apart T w w' :=
  ⟨h.os, h.tape, h.output, h.size, fun k hk hn => h.block k hk (fun hx => by rcases hs k hx with h | h; exact hn h; omega)⟩
theorem Apart.then {S T U : List Nat} {a b c : World} (h : Apart S a b) (k : Apart T b c) (hs : ∀ x ∈ S, x ∈ U ∨ a.heap.size ≤ x) (ht : ∀ x ∈ T, x ∈ U ∨ a.heap.size ≤ x) : Apart U a c :=
  ⟨k.os.trans h.os, k.tape.trans h.tape, k.output.trans h.output, Nat.le_trans h.size k.size, fun i hi hn =>
    (k.block i (Nat.lt_of_lt_of_le hi h.size) (fun hx => by rcases ht i hx with h | h; exact hn h; omega)).trans (h.block i hi (fun hx => by rcases hs i hx with h | h; exact hn h; omega))⟩
theorem Apart.of_below {w w' : World} (h : Below w.heap.size w w') (S : List Nat) : Apart S w w' := ⟨h.os, h.tape, h.output, h.size, fun k hk _ => h.block k hk⟩
theorem Apart.of_grown {w w' : World} {b : Nat} (h : w.grownBy w' (some b)) : Apart [b] w w' :=
  ⟨h.os, h.tape, h.output, h.size, fun k hk hn => h.block k hk (fun e => hn (by cases e; simp))⟩
theorem Apart.below {S : List Nat} {w w' : World} (h : Apart S w w') (n : Nat) (hn : n ≤ w.heap.size) (hs : ∀ x ∈ S, n ≤ x) : Below n w w' :=
  ⟨h.os, h.tape, h.output, h.size, fun k hk => h.block k (Nat.lt_of_lt_of_le hk hn) (fun hx => by have := hs k hx; omega)⟩
theorem Apart.setCell (w : World) (g j : Nat) (v : Value) : Apart [g] w (w.setCell ⟨g, j, none⟩ v) :=
  ⟨rfl, rfl, rfl, by simp [World.setCell], fun k _ hn => Below.heap_setCell _ _ _ k (fun e => hn (by simp [show k = g from e]))⟩
theorem Apart.drew (w : World) (S : List Nat) : Apart S w w.drew := ⟨rfl, rfl, rfl, Nat.le_refl _, fun _ _ _ => rfl⟩
theorem Vb.apart {w w' : World} {g : Nat} {vs : List Value} {t : TypeId} {S : List Nat} (h : Vb w g vs t) (ha : Apart S w w') (hn : g ∉ S) : Vb w' g vs t := (ha.block g h.lt hn).trans h
theorem FMap.apart {w w' : World} {b : Nat} {M : vd.Files} {S : List Nat} (h : FMap w b M) (ha : Apart S w w') (hn : b ∉ S) : FMap w' b M := by
  have hlt := h.lt
  obtain ⟨es, clock, hb, r⟩ := h
  exact ⟨es, clock, (ha.block b hlt hn).trans hb, r⟩

namespace vd
structure Disk where
  cap : Nat
  files : Files
  off : Bool
  left : Nat
  keep : Int
def total (M : Files) : Nat := (M.map (·.2.1.length)).sum
theorem total_put (M : Files) (n : Name) (f : File) : total (put M n f) + (at_ M n).1.length = total M + f.1.length := by
  induction M with
  | nil => simp [put, at_, total]
  | cons x r ih =>
    obtain ⟨m, g⟩ := x
    by_cases h : m = n
    · simp [total, put, at_, h]; omega
    · simp [total, put, at_, h] at ih ⊢; omega
theorem total_del (M : Files) (n : Name) : total (del M n) + (at_ M n).1.length = total M := by
  induction M with
  | nil => simp [del, at_, total]
  | cons x r ih =>
    obtain ⟨m, g⟩ := x
    by_cases h : m = n
    · simp [total, del, at_, h]; omega
    · simp [total, del, at_, h] at ih ⊢; omega
theorem del_put (M : Files) (n : Name) (f : File) : has M n = true → del (put M n f) n = del M n := by
  intro h
  induction M with
  | nil => simp [has] at h
  | cons x r ih =>
    obtain ⟨m, g⟩ := x
    unfold has at h
    by_cases h1 : m = n
    · simp [put, del, h1]
    · rw [if_neg h1] at h
      simp [put, del, h1, ih h]
theorem at_put (M : Files) (n k : Name) (f : File) : at_ (put M n f) k = if k = n then f else at_ M k := by
  induction M with
  | nil => simp only [put, at_]; by_cases h : n = k <;> simp [h, eq_comm]
  | cons x r ih =>
    obtain ⟨m, g⟩ := x
    unfold put
    by_cases h1 : m = n
    · rw [if_pos h1]; subst h1
      unfold at_
      by_cases h2 : m = k
      · rw [if_pos h2, if_pos h2.symm]
      · rw [if_neg h2, if_neg (fun e => h2 e.symm), if_neg h2]
    · rw [if_neg h1]
      unfold at_
      by_cases h2 : m = k
      · rw [if_pos h2, if_pos h2, if_neg (fun e => h1 (h2.trans e))]
      · rw [if_neg h2, if_neg h2, ih]
theorem has_put (M : Files) (n k : Name) (f : File) : has (put M n f) k = (decide (k = n) || has M k) := by
  induction M with
  | nil => simp only [put, has]; by_cases h : n = k <;> simp [h, eq_comm]
  | cons x r ih =>
    obtain ⟨m, g⟩ := x
    unfold put
    by_cases h1 : m = n
    · rw [if_pos h1]; subst h1
      unfold has
      by_cases h2 : m = k
      · simp [h2]
      · simp [h2]; exact fun e => absurd e.symm h2
    · rw [if_neg h1]
      unfold has
      by_cases h2 : m = k
      · simp [h2]
      · rw [if_neg h2, if_neg h2, ih]
def setF (M : Files) (n : Name) (f : File) (gone : Bool) : Files := if gone then del (put M n f) n else put M n f
end vd
def diskV (b : Nat) (d : vd.Disk) : List Value := [.int .i64 (d.cap : Int), .int .i64 (vd.total d.files : Int), .map (some b), .bool d.off, .int .i64 (d.left : Int), .int .i64 d.keep]
/-- the struct at p and the map at b are this disk -/
structure Dk (w : World) (p b : Nat) (d : vd.Disk) : Prop where
  blk : Vb w p (diskV b d) 76
  map : FMap w b d.files
theorem Dk.ne {w : World} {p b : Nat} {d : vd.Disk} (h : Dk w p b d) : p ≠ b := by
  rintro rfl
  obtain ⟨es, c, hb, _⟩ := h.map
  have := h.blk
  unfold Vb at this
  rw [this] at hb
  cases hb
theorem Dk.apart {w w' : World} {p b : Nat} {d : vd.Disk} {S : List Nat} (h : Dk w p b d) (ha : Apart S w w') (hp : p ∉ S) (hb : b ∉ S) : Dk w' p b d := ⟨h.blk.apart ha hp, h.map.apart ha hb⟩
theorem zero_file (w : World) : (zeroValue 96).run Tryd.prog w = .ok (fileV ([], 0)) w := by kernel_rfl
end Go.Proofs.YtdnoeahhidmkbaaDoor
