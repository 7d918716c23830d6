/- The document's disk and log: RdMath, RdBase, RdThere, one behind the other. -/
import Derived.Test.YtdnoeahhidmkbaaDoorVdCreate
import Derived.Test.YtdnoeahhidmkbaaDoorRdA
import Derived.Lib.MinMax
namespace Go.Proofs.YtdnoeahhidmkbaaDoor
section
open Go Go.RowKit
set_option maxRecDepth 100000

namespace vd
theorem not_has {L D : Files} {m : Name} (hp : L.Perm D) (h : ∀ x ∈ L, x.1 ≠ m) : has D m = false := by
  cases hh : has D m with
  | false => rfl
  | true =>
    obtain ⟨x, hx, he⟩ := List.mem_map.1 ((has_names D m).1 hh)
    exact absurd he (h x (hp.mem_iff.2 hx))
theorem is_there {L D : Files} {m : Name} {j : Nat} {x : Name × File} (hp : L.Perm D) (hd : (D.map (·.1)).Nodup) (hx : L[j]? = some x) (hm : x.1 = m) : has D m = true ∧ at_ D m = x.2 := by
  subst hm
  have h := hp.mem_iff.1 (List.mem_of_getElem? hx)
  exact ⟨(has_names D _).2 (List.mem_map.2 ⟨x, h, rfl⟩), at_mem hd h⟩
theorem filter_none {P : Files} {n : Name} (h : n ∉ P.map (·.1)) : P.filter (fun y => decide (y.1 ≠ n)) = P := by
  rw [List.filter_eq_self]
  intro a ha
  exact decide_eq_true (fun e => h (e ▸ List.mem_map.2 ⟨a, ha, rfl⟩))
theorem del_filter (M : Files) (n : Name) (hd : (M.map (·.1)).Nodup) : del M n = M.filter (fun y => decide (y.1 ≠ n)) := by
  induction M with
  | nil => rfl
  | cons x r ih =>
    obtain ⟨m, g⟩ := x
    rw [List.map_cons, List.nodup_cons] at hd
    unfold del
    by_cases h : m = n
    · subst h
      rw [if_pos rfl, List.filter_cons_of_neg (by simp)]
      exact (filter_none hd.1).symm
    · rw [if_neg h, List.filter_cons_of_pos (by simpa using h), ih hd.2]
theorem put_cons (M : Files) (n : Name) (f : File) (hd : (M.map (·.1)).Nodup) : (put M n f).Perm ((n, f) :: M.filter (fun y => decide (y.1 ≠ n))) := by
  induction M with
  | nil => exact List.Perm.refl _
  | cons x r ih =>
    obtain ⟨m, g⟩ := x
    rw [List.map_cons, List.nodup_cons] at hd
    unfold put
    by_cases h : m = n
    · subst h
      rw [if_pos rfl, List.filter_cons_of_neg (by simp), filter_none hd.1]
    · rw [if_neg h, List.filter_cons_of_pos (by simpa using h)]
      exact ((ih hd.2).cons _).trans (List.Perm.swap _ _ _)
theorem set_cons {L : Files} {j : Nat} {x : Name × File} (f : File) (hx : L[j]? = some x) (hd : (L.map (·.1)).Nodup) : (L.set j (x.1, f)).Perm ((x.1, f) :: L.filter (fun y => decide (y.1 ≠ x.1))) := by
  induction L generalizing j with
  | nil => simp at hx
  | cons y r ih =>
    rw [List.map_cons, List.nodup_cons] at hd
    cases j with
    | zero =>
      obtain rfl : y = x := by simpa using hx
      rw [List.set_cons_zero, List.filter_cons_of_neg (by simp), filter_none hd.1]
    | succ j =>
      have hx' : r[j]? = some x := by simpa using hx
      have hne : y.1 ≠ x.1 := fun e => hd.1 (e ▸ List.mem_map.2 ⟨x, List.mem_of_getElem? hx', rfl⟩)
      rw [List.set_cons_succ, List.filter_cons_of_pos (by simpa using hne)]
      exact ((ih hx' hd.2).cons _).trans (List.Perm.swap _ _ _)
theorem nodup_perm {L D : Files} (hp : L.Perm D) (hd : (D.map (·.1)).Nodup) : (L.map (·.1)).Nodup := ((hp.map _).nodup_iff).2 hd
theorem set_put {L D : Files} {j : Nat} {x : Name × File} (f : File) (hp : L.Perm D) (hd : (D.map (·.1)).Nodup) (hx : L[j]? = some x) : (L.set j (x.1, f)).Perm (put D x.1 f) :=
  (set_cons f hx (nodup_perm hp hd)).trans (((hp.filter _).cons _).trans (put_cons D x.1 f hd).symm)
theorem del_perm {L D : Files} (hp : L.Perm D) (hd : (D.map (·.1)).Nodup) (n : Name) : (L.filter (fun y => decide (y.1 ≠ n))).Perm (del D n) := by
  rw [del_filter D n hd]; exact hp.filter _
theorem del_nodup {D : Files} (hd : (D.map (·.1)).Nodup) (n : Name) : ((del D n).map (·.1)).Nodup := hd.sublist ((del_sub D n).map _)
theorem total_perm {L D : Files} (hp : L.Perm D) : total L = total D := by
  unfold total
  exact (hp.map _).sum_nat
theorem done_perm {L M D F : Files} {c left : Nat} {off : Bool} {keep : Int} (a : Bool) (hL : L.Perm D) (hM : M.Perm F) : (done ⟨c, L, off, left, keep⟩ M a).files.Perm (done ⟨c, D, off, left, keep⟩ F a).files := by
  unfold done
  have h : goes ⟨c, L, off, left, keep⟩ a = goes ⟨c, D, off, left, keep⟩ a := rfl
  rw [h]
  by_cases hl : left = 1
  · rw [if_pos hl, if_pos hl]
    cases goes ⟨c, D, off, left, keep⟩ a with
    | true => exact hM.map _
    | false => exact hL.map _
  · rw [if_neg hl, if_neg hl]
    cases goes ⟨c, D, off, left, keep⟩ a with
    | true => exact hM
    | false => exact hL
theorem done_same {L M D F : Files} {c left : Nat} {off : Bool} {keep : Int} (a : Bool) : (done ⟨c, L, off, left, keep⟩ M a).off = (done ⟨c, D, off, left, keep⟩ F a).off ∧ (done ⟨c, L, off, left, keep⟩ M a).left = (done ⟨c, D, off, left, keep⟩ F a).left ∧ (done ⟨c, L, off, left, keep⟩ M a).keep = (done ⟨c, D, off, left, keep⟩ F a).keep ∧ (done ⟨c, L, off, left, keep⟩ M a).cap = (done ⟨c, D, off, left, keep⟩ F a).cap := by
  unfold done
  have h : goes ⟨c, L, off, left, keep⟩ a = goes ⟨c, D, off, left, keep⟩ a := rfl
  rw [h]
  by_cases hl : left = 1
  · rw [if_pos hl, if_pos hl]
    cases goes ⟨c, D, off, left, keep⟩ a <;> exact ⟨rfl, rfl, rfl, rfl⟩
  · rw [if_neg hl, if_neg hl]
    cases goes ⟨c, D, off, left, keep⟩ a <;> exact ⟨rfl, rfl, rfl, rfl⟩
/-- how many files there may be, and that none is without a name -/
structure Few (d : Disk) : Prop where
  len : d.files.length ≤ 200
  non : has d.files [] = false
theorem has_same {L D : Files} (h : L.map (·.1) = D.map (·.1)) (n : Name) : has L n = has D n := by
  cases h1 : has D n with
  | true => rw [has_names, h, ← has_names]; exact h1
  | false =>
    cases h2 : has L n with
    | false => rfl
    | true => rw [has_names, h, ← has_names, h1] at h2; cases h2
theorem few_done {d : Disk} {f2 : Files} {a : Bool} (h : Few d) (h2 : f2.length ≤ 200) (h3 : has f2 [] = false) : Few (done d f2 a) := by
  have h4 : Few (if goes d a then { less d with files := f2 } else less d) := by
    cases goes d a with
    | true => exact ⟨h2, h3⟩
    | false => exact ⟨h.len, h.non⟩
  unfold done
  by_cases hl : d.left = 1
  · rw [if_pos hl]
    unfold crash
    refine ⟨?_, ?_⟩
    · show (List.map _ _).length ≤ 200
      rw [List.length_map]; exact h4.len
    · exact (has_same (mapF_names (fun _ f => trim d.keep f) _) []).trans h4.non
  · rw [if_neg hl]; exact h4
theorem put_len2 (M : Files) (n : Name) (f : File) : (put M n f).length = if has M n then M.length else M.length + 1 := by
  induction M with
  | nil => rfl
  | cons x r ih =>
    obtain ⟨m, g⟩ := x
    unfold put has
    by_cases hm : m = n
    · rw [if_pos hm, if_pos hm]; rfl
    · rw [if_neg hm, if_neg hm, List.length_cons, ih]
      cases has r n <;> rfl
theorem del_less {M : Files} {n : Name} (h : has M n = true) : (del M n).length + 1 = M.length := by
  induction M with
  | nil => simp [has] at h
  | cons x r ih =>
    obtain ⟨m, g⟩ := x
    unfold has at h
    unfold del
    by_cases hm : m = n
    · rw [if_pos hm]; rfl
    · rw [if_neg hm] at h
      rw [if_neg hm, List.length_cons, List.length_cons, ih h]
theorem del_non {M : Files} (n : Name) (h : has M [] = false) : has (del M n) [] = false := by
  cases h2 : has (del M n) [] with
  | false => rfl
  | true =>
    rw [has_names] at h2
    have h3 := ((del_sub M n).map (·.1)).subset h2
    rw [(has_names M []).2 h3] at h; cases h
theorem put_non {M : Files} {n : Name} (f : File) (h : has M [] = false) (hn : n ≠ []) : has (put M n f) [] = false := by
  rw [has_put, h, decide_eq_false (fun e => hn e.symm)]; rfl
theorem has_ne {M : Files} {n : Name} (h : has M [] = false) (hh : has M n = true) : n ≠ [] := by
  rintro rfl; rw [h] at hh; cases hh
theorem few_there {d : Disk} {n : Name} {f2 : Files} {a : Bool} (h : Few d) (h2 : has d.files n = true → nameErr d.off [n] = 0 → f2.length ≤ 200 ∧ has f2 [] = false) : Few (there d n f2 a).1 := by
  unfold there
  by_cases he : nameErr d.off [n] = 0
  · rw [if_neg (by rw [he]; simp)]
    cases hh : has d.files n with
    | true => rw [if_pos rfl]; exact few_done h (h2 hh he).1 (h2 hh he).2
    | false => rw [if_neg (by simp)]; exact h
  · rw [if_pos he]; exact h
theorem few_sync {d : Disk} (h : Few d) (n : Name) : Few (sync d n).1 :=
  few_there h fun hh _ => ⟨by rw [put_len2, if_pos hh]; exact h.len, put_non _ h.non (has_ne h.non hh)⟩
theorem few_delete {d : Disk} (h : Few d) (n : Name) : Few (delete d n).1 :=
  few_there h fun hh _ => ⟨by have := del_less hh; have := h.len; omega, del_non n h.non⟩
theorem few_append {d : Disk} (h : Few d) (n : Name) (s : List UInt8) : Few (append d n s).1 := by
  unfold append
  split
  · exact h
  · exact few_there h fun hh _ => ⟨by rw [put_len2, if_pos hh]; exact h.len, put_non _ h.non (has_ne h.non hh)⟩
theorem good_ne {n : Name} (h : good n = true) : n ≠ [] := by
  unfold good at h
  rw [Bool.and_eq_true, decide_eq_true_iff] at h
  exact h.1
theorem few_rename {d : Disk} (h : Few d) (n m : Name) : Few (rename d n m).1 := by
  unfold rename
  by_cases he : nameErr d.off [n, m] = 0
  · rw [if_neg (by rw [he]; simp)]
    refine few_there h fun hh _ => ⟨?_, put_non _ (del_non n h.non) (good_ne ?_)⟩
    · have := del_less hh
      have := h.len
      rw [put_len2]
      split <;> omega
    · unfold nameErr at he
      cases ho : d.off with
      | true => rw [ho] at he; simp at he
      | false =>
        rw [ho] at he
        cases hm : good m with
        | true => rfl
        | false => simp [hm] at he
  · rw [if_pos he]; exact h
theorem few_create {d : Disk} (h : Few d) (n : Name) : Few (create d n).1 := by
  unfold create
  by_cases he : nameErr d.off [n] = 0
  · rw [if_neg (by rw [he]; simp)]
    split
    · exact h
    · split
      · exact h
      · refine few_done h ?_ (put_non _ h.non (good_ne (err_zero he).2))
        rw [put_len2]
        split
        · exact h.len
        · omega
  · rw [if_pos he]; exact h
theorem few_crash {d : Disk} (h : Few d) (k : Int) : Few (crash d k) := by
  refine ⟨?_, (has_same (mapF_names (fun _ f => trim k f) _) []).trans h.non⟩
  unfold crash mapF
  show (List.map _ _).length ≤ 200
  rw [List.length_map]; exact h.len
theorem has_good {d : Disk} {m : Name} (h : Ok d) (hne : has d.files [] = false) (hh : has d.files m = true) : good m = true := by
  obtain ⟨x, hx, he⟩ := List.mem_map.1 ((has_names _ m).1 hh)
  subst he
  unfold good
  rw [Bool.and_eq_true, decide_eq_true_iff, decide_eq_true_iff]
  exact ⟨has_ne hne hh, h.nam x hx⟩
theorem err_good {d : Disk} {m : Name} (h : Ok d) (hne : has d.files [] = false) (hh : has d.files m = true) (ho : d.off = false) : nameErr d.off [m] = 0 := by
  unfold nameErr
  rw [ho]
  simp [has_good h hne hh]
end vd
end
section
open Go Go.RowKit
set_option maxRecDepth 100000

/-- the value is a disk of the document: its files in any order -/
def Rd (w : World) (v : Value) (d : vd.Disk) : Prop :=
  ∃ (L : vd.Files) (A : Option Addr) (cc : Nat), v = rdV d.cap (.slice A L.length cc) d.off d.left d.keep ∧ FRow w 0 (.slice A L.length cc) L ∧ L.Perm d.files
/-- what a call answers: a disk, and an error -/
def RdTo (w : World) (r : vd.Disk × Nat) (e : Ending) (w' : World) : Prop := ∃ v, e = .returned (.tuple #[v, .int .i64 (r.2 : Int)]) ∧ Rd w' v r.1 ∧ Below w.heap.size w w'
theorem Rd.mk' {w : World} {c n cc left : Nat} {A : Option Addr} {off : Bool} {keep : Int} {L D : vd.Files} (h : FRow w 0 (.slice A n cc) L) (hn : L.length = n) (hp : L.Perm D) : Rd w (rdV c (.slice A n cc) off left keep) ⟨c, D, off, left, keep⟩ :=
  ⟨L, A, cc, by rw [hn], by rw [hn]; exact h, hp⟩
theorem Rd.later {w w' : World} {v : Value} {d : vd.Disk} (h : Rd w v d) (hb : Below w.heap.size w w') : Rd w' v d := by
  obtain ⟨L, A, cc, h1, h2, h3⟩ := h
  exact ⟨L, A, cc, h1, owns_below h2 hb, h3⟩
theorem total_mem {L : vd.Files} {x : vd.Name × vd.File} (hx : x ∈ L) : x.2.1.length ≤ vd.total L := by
  unfold vd.total
  induction L with
  | nil => cases hx
  | cons y r ih =>
    rw [List.map_cons, List.sum_cons]
    rcases List.mem_cons.1 hx with rfl | h
    · omega
    · have := ih h; omega
theorem tidy_of {d : vd.Disk} {L : vd.Files} (h : vd.Ok d) (hl : d.files.length ≤ 1000) (hp : L.Perm d.files) : Tidy L where
  len := by rw [hp.length_eq]; exact hl
  syn := fun x hx => h.syn x (hp.mem_iff.1 hx)
  low := fun x hx => by
    have h1 : x.2.1.length ≤ vd.total L := by
      exact total_mem hx
    rw [vd.total_perm hp] at h1
    have := h.tot
    have := h.cap
    omega
/-- done's answer, said of the disk -/
theorem rd_done_to {w' : World} {c left : Nat} {off : Bool} {keep : Int} {a : Bool} {L M D F : vd.Files} {v : Value} (hL : L.Perm D) (hM : M.Perm F) (h : FRow w' 0 v (vd.done ⟨c, L, off, left, keep⟩ M a).files) :
    Rd w' (rdD (vd.done ⟨c, L, off, left, keep⟩ M a) v) (vd.done ⟨c, D, off, left, keep⟩ F a) := by
  obtain ⟨A, cc, rfl⟩ := h.form
  obtain ⟨h1, h2, h3, h4⟩ := vd.done_same (c := c) (left := left) (off := off) (keep := keep) (L := L) (M := M) (D := D) (F := F) a
  refine ⟨_, A, cc, ?_, h, vd.done_perm a hL hM⟩
  unfold rdD
  rw [h1, h2, h3, h4]
theorem FRow.out {w : World} {B : Nat} {v : Value} {L : vd.Files} (h : FRow w B v L) {r : Nat} {vs : List Value} {t : TypeId} (hv : Vb w r vs t) (ht : t ≠ 99) : ∀ g, v.ownBlock = some g → g ≠ r := by
  intro g hg e
  subst e
  rcases h.2 with ⟨rfl, _⟩ | ⟨g', cap, cur, rfl, _, hh, _⟩
  · cases hg
  · cases hg
    unfold Vb at hv
    rw [hv] at hh
    injection hh with hh
    injection hh with _ h2 _
    exact ht h2
theorem FRow.put {w : World} {B : Nat} {v : Value} {L : vd.Files} (h : FRow w B v L) {r : Nat} {vs : List Value} (hv : Vb w r vs 45) (c : Nat) (u : Value) (off : Bool) (left : Nat) (keep : Int) : FRow (put5 w r c u off left keep) B v L :=
  owns_apart h (put5_apart w r c u off left keep) (fun g hg => by simpa using h.out hv (by decide) g hg)
theorem Rd.put {w : World} {v : Value} {d : vd.Disk} (h : Rd w v d) {r : Nat} {vs : List Value} (hv : Vb w r vs 45) (c : Nat) (u : Value) (off : Bool) (left : Nat) (keep : Int) : Rd (put5 w r c u off left keep) v d := by
  obtain ⟨L, A, cc, h1, h2, h3⟩ := h
  exact ⟨L, A, cc, h1, h2.put hv c u off left keep, h3⟩
def zeros5 : List Value := [.int .i64 0, .slice none 0 0, .bool false, .int .i64 0, .int .i64 0]
/-- the boxes of a call: the disk's, and the answer's -/
structure DB (w W : World) (b r : Nat) (vs : List Value) : Prop where
  below : Below w.heap.size w W
  hb : w.heap.size ≤ b
  hr : b < r
  one : Vb W b vs 45
  res : Vb W r [.int .i64 0, .slice none 0 0, .bool false, .int .i64 0, .int .i64 0] 45
theorem DB.new (w : World) (vs : List Value) : DB w ((w.alloc (.cells vs.toArray 45)).alloc (.cells #[.int .i64 0, .slice none 0 0, .bool false, .int .i64 0, .int .i64 0] 45)) w.heap.size (w.alloc (.cells vs.toArray 45)).heap.size vs := by
  obtain ⟨W, hW⟩ : ∃ W, w.alloc (.cells vs.toArray 45) = W := ⟨_, rfl⟩
  have hb : Below w.heap.size w W := by rw [← hW]; exact (Below.refl _ w).alloc (Nat.le_refl _) _
  have hs : W.heap.size = w.heap.size + 1 := by rw [← hW]; exact Array.size_push _
  have hv : Vb W w.heap.size vs 45 := by rw [← hW]; exact Vb.new w _ _
  rw [hW]
  have hb2 : Below W.heap.size W (W.alloc (.cells #[.int .i64 0, .slice none 0 0, .bool false, .int .i64 0, .int .i64 0] 45)) := (Below.refl _ W).alloc (Nat.le_refl _) _
  exact ⟨hb.trans (hb2.mono hb.size), Nat.le_refl _, by omega, hv.below hb2, Vb.new W _ _⟩
theorem DB.later {w W W' : World} {b r : Nat} {vs : List Value} (h : DB w W b r vs) (hb : Below W.heap.size W W') : DB w W' b r vs :=
  ⟨h.below.trans (hb.mono h.below.size), h.hb, h.hr, h.one.below hb, h.res.below hb⟩
theorem DB.ret {w W : World} {b r : Nat} {vs : List Value} (h : DB w W b r vs) (c : Nat) (v : Value) (off : Bool) (left : Nat) (keep : Int) : Vb (put5 W r c v off left keep) r (rdC c v off left keep) 45 ∧ Below w.heap.size w (put5 W r c v off left keep) :=
  ⟨put5_vb h.res c v off left keep, put5_below h.below (Nat.le_trans h.hb (Nat.le_of_lt h.hr)) c v off left keep⟩
end
section
open Go Go.RowKit
set_option maxRecDepth 100000

namespace vd
theorem there_err {d : Disk} {m : Name} {f2 : Files} {a : Bool} {en : Nat} (h : nameErr d.off [m] = en) (h0 : ¬ en = 0) : there d m f2 a = (d, en) := by subst h; unfold there; rw [if_pos h0]
theorem there_no {d : Disk} {m : Name} {f2 : Files} {a : Bool} (h : nameErr d.off [m] = 0) (hh : has d.files m = false) : there d m f2 a = (d, 3) := by unfold there; rw [h, if_neg (by simp), if_neg (by rw [hh]; simp)]
theorem there_yes {d : Disk} {m : Name} {f2 : Files} {a : Bool} (h : nameErr d.off [m] = 0) (hh : has d.files m = true) : there d m f2 a = (done d f2 a, doneE d) := by unfold there; rw [h, if_neg (by simp), if_pos hh]
theorem ok_syn {d : Disk} {m : Name} {f : File} (h : Ok d) (hn : nameErr d.off [m] = 0) (hx : at_ d.files m = f) : Ok ⟨d.cap, put d.files m (f.1, f.1.length), d.off, d.left, d.keep⟩ :=
  ok_put h m _ (good_len (err_zero hn).2) (Nat.le_refl _) (by have := h.tot; rw [hx]; show _ + f.1.length ≤ _; omega)
theorem ok_app {d : Disk} {m : Name} {f : File} {s : List UInt8} (h : Ok d) (hn : nameErr d.off [m] = 0) (hx : at_ d.files m = f) (ht : total d.files + s.length ≤ d.cap) : Ok ⟨d.cap, put d.files m (f.1 ++ s, f.2), d.off, d.left, d.keep⟩ :=
  ok_put h m _ (good_len (err_zero hn).2) (by have := at_syn h m; rw [hx] at this; show f.2 ≤ (f.1 ++ s).length; rw [List.length_append]; omega) (by rw [hx]; show _ + (f.1 ++ s).length ≤ _; rw [List.length_append]; omega)
theorem ok_ren {d : Disk} {a b : Name} {f : File} (h : Ok d) (hn : nameErr d.off [a, b] = 0) (hx : at_ d.files a = f) : Ok ⟨d.cap, put (del d.files a) b f, d.off, d.left, d.keep⟩ := by
  subst hx
  refine ok_put (ok_del h a) b _ (good_len (nameErr_two hn).2) (at_syn h a) ?_
  have := total_del d.files a
  have := h.tot
  show total (del d.files a) + _ ≤ _ + d.cap
  omega
theorem append_full {d : Disk} {m : Name} {s : List UInt8} (h : nameErr d.off [m] = 0) (hh : has d.files m = true) (hl : d.cap < total d.files + s.length) : append d m s = (d, 2) := by
  unfold append; rw [if_pos ⟨hh, (err_zero h).1, hl⟩]
theorem append_there {d : Disk} {m : Name} {s : List UInt8} (h : ¬ (has d.files m = true ∧ d.off = false ∧ d.cap < total d.files + s.length)) : append d m s = there d m (put d.files m ((at_ d.files m).1 ++ s, (at_ d.files m).2)) true := by
  unfold append; rw [if_neg h]
theorem read_err {d : Disk} {m : Name} {en : Nat} (h : nameErr d.off [m] = en) (h0 : ¬ en = 0) : read d m = ([], en) := by subst h; unfold read; rw [if_pos h0]
theorem read_no {d : Disk} {m : Name} (h : nameErr d.off [m] = 0) (hh : has d.files m = false) : read d m = ([], 3) := by unfold read; rw [h, if_neg (by simp), if_neg (by rw [hh]; simp)]
theorem read_yes {d : Disk} {m : Name} (h : nameErr d.off [m] = 0) (hh : has d.files m = true) : read d m = ((at_ d.files m).1, 0) := by unfold read; rw [h, if_neg (by simp), if_pos hh]
theorem rename_err {d : Disk} {a b : Name} {en : Nat} (h : nameErr d.off [a, b] = en) (h0 : ¬ en = 0) : rename d a b = (d, en) := by subst h; unfold rename; rw [if_pos h0]
theorem rename_ok {d : Disk} {a b : Name} (h : nameErr d.off [a, b] = 0) : rename d a b = there d a (put (del d.files a) b (at_ d.files a)) false := by unfold rename; rw [if_neg (by rw [h]; simp)]
theorem err_le (off : Bool) (l : List Name) : nameErr off l ≤ 6 := by unfold nameErr; split <;> (try split) <;> omega
theorem err_max (off : Bool) (a b : Name) : nameErr off [a, b] = Nat.max (nameErr off [a]) (nameErr off [b]) := by
  unfold nameErr
  cases off with
  | true => rfl
  | false => cases h1 : good a <;> cases h2 : good b <;> simp [h1, h2]
end vd
theorem fcells_set1 {L : vd.Files} {j : Nat} {x : vd.Name × vd.File} (hx : L[j]? = some x) (s : List UInt8) : (fcells L).set (j * 3 + 1) (.string (crcm.mk s)) = fcells (L.set j (x.1, s, x.2.2)) := by
  induction L generalizing j with
  | nil => simp at hx
  | cons y r ih =>
    have hl : (fcells [y]).length = 3 := rfl
    cases j with
    | zero =>
      obtain rfl : y = x := by simpa using hx
      rfl
    | succ j =>
      have hx' : r[j]? = some x := by simpa using hx
      rw [List.set_cons_succ, show y :: r = [y] ++ r from rfl, show y :: r.set j (x.1, s, x.2.2) = [y] ++ r.set j (x.1, s, x.2.2) from rfl, fcells_append, fcells_append, ← ih hx', List.set_append_right _ _ (by rw [hl]; omega), hl, show (j + 1) * 3 + 1 - 3 = j * 3 + 1 from by omega]
theorem fcells_set2 {L : vd.Files} {j : Nat} {x : vd.Name × vd.File} (hx : L[j]? = some x) (i : Nat) : (fcells L).set (j * 3 + 2) (.int .i64 (i : Int)) = fcells (L.set j (x.1, x.2.1, i)) := by
  induction L generalizing j with
  | nil => simp at hx
  | cons y r ih =>
    have hl : (fcells [y]).length = 3 := rfl
    cases j with
    | zero =>
      obtain rfl : y = x := by simpa using hx
      rfl
    | succ j =>
      have hx' : r[j]? = some x := by simpa using hx
      rw [List.set_cons_succ, show y :: r = [y] ++ r from rfl, show y :: r.set j (x.1, x.2.1, i) = [y] ++ r.set j (x.1, x.2.1, i) from rfl, fcells_append, fcells_append, ← ih hx', List.set_append_right _ _ (by rw [hl]; omega), hl, show (j + 1) * 3 + 2 - 3 = j * 3 + 2 from by omega]
theorem DB.low {w W W' : World} {b r k : Nat} {vs : List Value} (h : DB w W b r vs) (hb : Below k W W') (hk : r < k) (hw : w.heap.size ≤ k) : DB w W' b r vs :=
  ⟨h.below.trans (hb.mono hw), h.hb, h.hr, (hb.block b (by have := h.hr; omega)).trans h.one, (hb.block r hk).trans h.res⟩
theorem DB.cell {w W : World} {b r g : Nat} {vs : List Value} (h : DB w W b r vs) (hg : r < g) (j : Nat) (v : Value) : DB w (W.setCell ⟨g, j, none⟩ v) b r vs :=
  ⟨h.below.setCell (p := ⟨g, j, none⟩) (by show w.heap.size ≤ g; have := h.hb; have := h.hr; omega) _, h.hb, h.hr, h.one.apart (Apart.setCell _ _ _ _) (by have := h.hr; simp; omega), h.res.apart (Apart.setCell _ _ _ _) (by simp; omega)⟩
theorem DB.drew {w W : World} {b r : Nat} {vs : List Value} (h : DB w W b r vs) : DB w W.drew b r vs := h.later (below_drewN (Below.refl _ W) 1)
end
end Go.Proofs.YtdnoeahhidmkbaaDoor
